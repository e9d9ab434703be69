/-
  No cell of these rows narrows 'for every input' (looked for: loops, veiled, ifaces, maps, wideKeys, modest, calm, conditions, laid).
  DERIVED. THE GIVEN ROWS OF THIS SEAT. 3 by the template 'for every input the law returns true; each argument reads behind the call as it read before'; 0 by the template 'total and deterministic' (their statements: YtjjpadifidbkhaaTotals.lean).
  GIVEN WITH THE SEED: the statements are not yours to turn. If you find one false, say at which input.
  Laid BY PROGRAM, IN A SANDBOX (cutbox-rows.mjs): the forced cells as the released guide's own fill.sh prints them over the translation 1b99d19159b9f4ad… (all of the seat's roots in one cut). By AI agents, Wed Nov 11 2026. No macro, syntax, notation, axiom, sorry.
-/
import Derived.Test.YtjjpadifidbkhaaChecked
import GoSem.Claim
import GoSem.ClaimJoined
import GoSem.ClaimMapViews
import Derived.JoinedTies
import Derived.KernelRfl
namespace Go.Proofs.Ytjjpadifidbkhaa
/- THE CELL 'sum', in the pinned program and in every row, IS THE sha256 OF THE DUMP (.gsa) THAT YtjjpadifidbkhaaProg.lean LOADS. Nothing in Lean hashes anything: it is a label: what it is worth is what the hold of that sum in a sandbox is worth. -/
noncomputable def Try.pinned : Pinned := { name := "ytjjpadifidbkhaa", sum := "1b99d19159b9f4adcd28706d07848085e6faec84632d4defccff7c49e268a5c7", checked := Try.checked }
namespace Rows
def none {H : Type} : Left H := { results := [], args := [] }

/-- 'convoylaw06.TokenHangs': WHATEVER THE INPUT: true; the input reads as it did. -/
def tokenHangsSpec : ChangeSpec := { name := "tokenHangs", fn := fun _ => fun
  | [d] => { results := [.lit (.bool true)], args := [d] }
  | _ => none }
def tokenHangsRow : OpenClaim := { program := "ytjjpadifidbkhaa", sum := "1b99d19159b9f4adcd28706d07848085e6faec84632d4defccff7c49e268a5c7", func := "convoy/convoylaw06.TokenHangs", spec := "tokenHangs", apart := false }
def TokenHangsSaid : Prop := tokenHangsRow.holds Try.pinned (OpenSpec.ofChange tokenHangsSpec)

/-- ITS FALSE NEIGHBOUR: 'it returns false'. Refute it at one input. -/
def tokenHangsWrong : ChangeSpec := { name := "tokenHangs", fn := fun _ => fun
  | [d] => { results := [.lit (.bool false)], args := [d] }
  | _ => none }
def TokenHangsWrongFalsely : Prop := tokenHangsRow.holds Try.pinned (OpenSpec.ofChange tokenHangsWrong)

/-- 'convoylaw06.TokenPlays': WHATEVER THE INPUT: true; the input reads as it did. -/
def tokenPlaysSpec : ChangeSpec := { name := "tokenPlays", fn := fun _ => fun
  | [d] => { results := [.lit (.bool true)], args := [d] }
  | _ => none }
def tokenPlaysRow : OpenClaim := { program := "ytjjpadifidbkhaa", sum := "1b99d19159b9f4adcd28706d07848085e6faec84632d4defccff7c49e268a5c7", func := "convoy/convoylaw06.TokenPlays", spec := "tokenPlays", apart := false }
def TokenPlaysSaid : Prop := tokenPlaysRow.holds Try.pinned (OpenSpec.ofChange tokenPlaysSpec)

/-- ITS FALSE NEIGHBOUR: 'it returns false'. Refute it at one input. -/
def tokenPlaysWrong : ChangeSpec := { name := "tokenPlays", fn := fun _ => fun
  | [d] => { results := [.lit (.bool false)], args := [d] }
  | _ => none }
def TokenPlaysWrongFalsely : Prop := tokenPlaysRow.holds Try.pinned (OpenSpec.ofChange tokenPlaysWrong)

/-- 'convoylaw06.TokenNil': WHATEVER THE INPUT: true; the input reads as it did. -/
def tokenNilSpec : ChangeSpec := { name := "tokenNil", fn := fun _ => fun
  | [d] => { results := [.lit (.bool true)], args := [d] }
  | _ => none }
def tokenNilRow : OpenClaim := { program := "ytjjpadifidbkhaa", sum := "1b99d19159b9f4adcd28706d07848085e6faec84632d4defccff7c49e268a5c7", func := "convoy/convoylaw06.TokenNil", spec := "tokenNil", apart := false }
def TokenNilSaid : Prop := tokenNilRow.holds Try.pinned (OpenSpec.ofChange tokenNilSpec)

/-- ITS FALSE NEIGHBOUR: 'it returns false'. Refute it at one input. -/
def tokenNilWrong : ChangeSpec := { name := "tokenNil", fn := fun _ => fun
  | [d] => { results := [.lit (.bool false)], args := [d] }
  | _ => none }
def TokenNilWrongFalsely : Prop := tokenNilRow.holds Try.pinned (OpenSpec.ofChange tokenNilWrong)

/- THE SECOND FORM. 'bulk': how many values and letters a reading holds, each counted each time it is reached (what is shared counts as often as it is met; a slice's spare places count too). A statement '..UptoSaid' is the law's where the arguments, and the package variables that the reading takes, are together of bulk at most 1048576: NARROWER than '..Said'. Prove '..Said' where nothing that the law and all that it calls make is longer than what came in: it says more and counts as full. Else prove '..UptoSaid'. A law counts once. -/
mutual
def uptoBulk {H : Type} : DataW H → Nat
  | .lit (.string bytes) => bytes.length + 1
  | .lit _ => 1
  | .nil => 1
  | .ptr d => uptoBulk d + 1
  | .slice elems spare => uptoBulkAll elems + uptoBulkAll spare + 1
  | .agg parts => uptoBulkAll parts + 1
  | .iface _ d => uptoBulk d + 1
  | .map entries => uptoBulkEntries entries + 1
  | .held _ => 1
def uptoBulkAll {H : Type} : List (DataW H) → Nat
  | [] => 0
  | d :: r => uptoBulk d + uptoBulkAll r
def uptoBulkEntries {H : Type} : List (Lit × DataW H) → Nat
  | [] => 0
  | x :: r => uptoBulkEntry x + uptoBulkEntries r
def uptoBulkEntry {H : Type} : Lit × DataW H → Nat
  | (.string bytes, d) => bytes.length + uptoBulk d + 1
  | (_, d) => uptoBulk d + 1
 end
def uptoSmall : (H : Type) → List (DataW H) → Bool := fun _ ds => decide (uptoBulkAll ds ≤ 1048576)
def OpenSpec.upto (s : _root_.Go.ChangeSpec) : _root_.Go.OpenSpec := { _root_.Go.OpenSpec.ofChange s with cond := some uptoSmall }

/-- 'convoylaw06.TokenHangs', WHERE WHAT IT READS IS OF BULK AT MOST 1048576: true; the input reads as it did. -/
def tokenHangsUptoRow : OpenClaim := { program := "ytjjpadifidbkhaa", sum := "1b99d19159b9f4adcd28706d07848085e6faec84632d4defccff7c49e268a5c7", func := "convoy/convoylaw06.TokenHangs", spec := "tokenHangs", apart := false, narrowed := true }
def TokenHangsUptoSaid : Prop := tokenHangsUptoRow.holds Try.pinned (OpenSpec.upto tokenHangsSpec)

/-- 'convoylaw06.TokenPlays', WHERE WHAT IT READS IS OF BULK AT MOST 1048576: true; the input reads as it did. -/
def tokenPlaysUptoRow : OpenClaim := { program := "ytjjpadifidbkhaa", sum := "1b99d19159b9f4adcd28706d07848085e6faec84632d4defccff7c49e268a5c7", func := "convoy/convoylaw06.TokenPlays", spec := "tokenPlays", apart := false, narrowed := true }
def TokenPlaysUptoSaid : Prop := tokenPlaysUptoRow.holds Try.pinned (OpenSpec.upto tokenPlaysSpec)

/-- 'convoylaw06.TokenNil', WHERE WHAT IT READS IS OF BULK AT MOST 1048576: true; the input reads as it did. -/
def tokenNilUptoRow : OpenClaim := { program := "ytjjpadifidbkhaa", sum := "1b99d19159b9f4adcd28706d07848085e6faec84632d4defccff7c49e268a5c7", func := "convoy/convoylaw06.TokenNil", spec := "tokenNil", apart := false, narrowed := true }
def TokenNilUptoSaid : Prop := tokenNilUptoRow.holds Try.pinned (OpenSpec.upto tokenNilSpec)

end Rows
end Go.Proofs.Ytjjpadifidbkhaa
