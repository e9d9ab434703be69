/-
  No cell of these rows narrows 'for every input' (looked for: loops, veiled, ifaces, maps, wideKeys, modest, calm, conditions, laid).
  DERIVED. THE GIVEN ROWS OF THIS SEAT. 5 by the template 'for every input the law returns true; each argument reads behind the call as it read before'; 0 by the template 'total and deterministic' (their statements: YtglmmljmieodaaaTotals.lean).
  GIVEN WITH THE SEED: the statements are not yours to turn. If you find one false, say at which input.
  Laid BY PROGRAM, IN A SANDBOX (cutbox-rows.mjs): the forced cells as the released guide's own fill.sh prints them over the translation 1b236d1aafa7abcc… (all of the seat's roots in one cut). By AI agents, Wed Nov 11 2026. No macro, syntax, notation, axiom, sorry.
-/
import Derived.Test.YtglmmljmieodaaaChecked
import GoSem.Claim
import GoSem.ClaimJoined
import GoSem.ClaimMapViews
import Derived.JoinedTies
import Derived.KernelRfl
namespace Go.Proofs.Ytglmmljmieodaaa
/- THE CELL 'sum', in the pinned program and in every row, IS THE sha256 OF THE DUMP (.gsa) THAT YtglmmljmieodaaaProg.lean LOADS. Nothing in Lean hashes anything: it is a label: what it is worth is what the hold of that sum in a sandbox is worth. -/
noncomputable def Try.pinned : Pinned := { name := "ytglmmljmieodaaa", sum := "1b236d1aafa7abcc8bf207d4227ba3b681181363e849321a8eacb2eaa9c87191", checked := Try.checked }
namespace Rows
def none {H : Type} : Left H := { results := [], args := [] }

/-- 'convoylaw20.SnapshotNumbers': WHATEVER THE INPUT: true; the input reads as it did. -/
def snapshotNumbersSpec : ChangeSpec := { name := "snapshotNumbers", fn := fun _ => fun
  | [d1, d2, d3] => { results := [.lit (.bool true)], args := [d1, d2, d3] }
  | _ => none }
def snapshotNumbersRow : OpenClaim := { program := "ytglmmljmieodaaa", sum := "1b236d1aafa7abcc8bf207d4227ba3b681181363e849321a8eacb2eaa9c87191", func := "convoy/convoylaw20.SnapshotNumbers", spec := "snapshotNumbers", plainKeys := false, apart := false }
def SnapshotNumbersSaid : Prop := snapshotNumbersRow.holds Try.pinned (OpenSpec.ofChange snapshotNumbersSpec)

/-- ITS FALSE NEIGHBOUR: 'it returns false'. Refute it at one input. -/
def snapshotNumbersWrong : ChangeSpec := { name := "snapshotNumbers", fn := fun _ => fun
  | [d1, d2, d3] => { results := [.lit (.bool false)], args := [d1, d2, d3] }
  | _ => none }
def SnapshotNumbersWrongFalsely : Prop := snapshotNumbersRow.holds Try.pinned (OpenSpec.ofChange snapshotNumbersWrong)

/-- 'convoylaw20.SnapshotTells': WHATEVER THE INPUT: true; the input reads as it did. -/
def snapshotTellsSpec : ChangeSpec := { name := "snapshotTells", fn := fun _ => fun
  | [d1, d2] => { results := [.lit (.bool true)], args := [d1, d2] }
  | _ => none }
def snapshotTellsRow : OpenClaim := { program := "ytglmmljmieodaaa", sum := "1b236d1aafa7abcc8bf207d4227ba3b681181363e849321a8eacb2eaa9c87191", func := "convoy/convoylaw20.SnapshotTells", spec := "snapshotTells", inPlace := ["internal/abi.NoEscape", "internal/bytealg.MakeNoZero"], unfollowed := true, recurses := true, plainKeys := false, apart := false }
def SnapshotTellsSaid : Prop := snapshotTellsRow.holds Try.pinned (OpenSpec.ofChange snapshotTellsSpec)

/-- ITS FALSE NEIGHBOUR: 'it returns false'. Refute it at one input. -/
def snapshotTellsWrong : ChangeSpec := { name := "snapshotTells", fn := fun _ => fun
  | [d1, d2] => { results := [.lit (.bool false)], args := [d1, d2] }
  | _ => none }
def SnapshotTellsWrongFalsely : Prop := snapshotTellsRow.holds Try.pinned (OpenSpec.ofChange snapshotTellsWrong)

/-- 'convoylaw20.SnapshotSums': WHATEVER THE INPUT: true; the input reads as it did. -/
def snapshotSumsSpec : ChangeSpec := { name := "snapshotSums", fn := fun _ => fun
  | [d1, d2, d3] => { results := [.lit (.bool true)], args := [d1, d2, d3] }
  | _ => none }
def snapshotSumsRow : OpenClaim := { program := "ytglmmljmieodaaa", sum := "1b236d1aafa7abcc8bf207d4227ba3b681181363e849321a8eacb2eaa9c87191", func := "convoy/convoylaw20.SnapshotSums", spec := "snapshotSums", inPlace := ["internal/abi.NoEscape", "internal/bytealg.MakeNoZero", "internal/bytealg.abigen_runtime_cmpstring"], unfollowed := true, recurses := true, plainKeys := false, apart := false }
def SnapshotSumsSaid : Prop := snapshotSumsRow.holds Try.pinned (OpenSpec.ofChange snapshotSumsSpec)

/-- ITS FALSE NEIGHBOUR: 'it returns false'. Refute it at one input. -/
def snapshotSumsWrong : ChangeSpec := { name := "snapshotSums", fn := fun _ => fun
  | [d1, d2, d3] => { results := [.lit (.bool false)], args := [d1, d2, d3] }
  | _ => none }
def SnapshotSumsWrongFalsely : Prop := snapshotSumsRow.holds Try.pinned (OpenSpec.ofChange snapshotSumsWrong)

/-- 'convoylaw20.SnapshotBack': WHATEVER THE INPUT: true; the input reads as it did. -/
def snapshotBackSpec : ChangeSpec := { name := "snapshotBack", fn := fun _ => fun
  | [d1, d2, d3] => { results := [.lit (.bool true)], args := [d1, d2, d3] }
  | _ => none }
def snapshotBackRow : OpenClaim := { program := "ytglmmljmieodaaa", sum := "1b236d1aafa7abcc8bf207d4227ba3b681181363e849321a8eacb2eaa9c87191", func := "convoy/convoylaw20.SnapshotBack", spec := "snapshotBack", inPlace := ["internal/abi.NoEscape", "internal/bytealg.MakeNoZero", "maps.clone", "internal/bytealg.abigen_runtime_cmpstring"], unfollowed := true, recurses := true, plainKeys := false, apart := false }
def SnapshotBackSaid : Prop := snapshotBackRow.holds Try.pinned (OpenSpec.ofChange snapshotBackSpec)

/-- ITS FALSE NEIGHBOUR: 'it returns false'. Refute it at one input. -/
def snapshotBackWrong : ChangeSpec := { name := "snapshotBack", fn := fun _ => fun
  | [d1, d2, d3] => { results := [.lit (.bool false)], args := [d1, d2, d3] }
  | _ => none }
def SnapshotBackWrongFalsely : Prop := snapshotBackRow.holds Try.pinned (OpenSpec.ofChange snapshotBackWrong)

/-- 'convoylaw20.SnapshotChains': WHATEVER THE INPUT: true; the input reads as it did. -/
def snapshotChainsSpec : ChangeSpec := { name := "snapshotChains", fn := fun _ => fun
  | [d1, d2] => { results := [.lit (.bool true)], args := [d1, d2] }
  | _ => none }
def snapshotChainsRow : OpenClaim := { program := "ytglmmljmieodaaa", sum := "1b236d1aafa7abcc8bf207d4227ba3b681181363e849321a8eacb2eaa9c87191", func := "convoy/convoylaw20.SnapshotChains", spec := "snapshotChains", inPlace := ["maps.clone", "math/bits.Add64", "internal/abi.NoEscape", "internal/bytealg.MakeNoZero", "internal/bytealg.abigen_runtime_cmpstring"], unfollowed := true, recurses := true, plainKeys := false, apart := false }
def SnapshotChainsSaid : Prop := snapshotChainsRow.holds Try.pinned (OpenSpec.ofChange snapshotChainsSpec)

/-- ITS FALSE NEIGHBOUR: 'it returns false'. Refute it at one input. -/
def snapshotChainsWrong : ChangeSpec := { name := "snapshotChains", fn := fun _ => fun
  | [d1, d2] => { results := [.lit (.bool false)], args := [d1, d2] }
  | _ => none }
def SnapshotChainsWrongFalsely : Prop := snapshotChainsRow.holds Try.pinned (OpenSpec.ofChange snapshotChainsWrong)

/- THE SECOND FORM. 'bulk': how many values and letters a reading holds, each counted each time it is reached (what is shared counts as often as it is met; a slice's spare places count too). A statement '..UptoSaid' is the law's where the arguments, and the package variables that the reading takes, are together of bulk at most 1048576: NARROWER than '..Said'. Prove '..Said' where nothing that the law and all that it calls make is longer than what came in: it says more and counts as full. Else prove '..UptoSaid'. A law counts once. -/
mutual
def uptoBulk {H : Type} : DataW H → Nat
  | .lit (.string bytes) => bytes.length + 1
  | .lit _ => 1
  | .nil => 1
  | .ptr d => uptoBulk d + 1
  | .slice elems spare => uptoBulkAll elems + uptoBulkAll spare + 1
  | .agg parts => uptoBulkAll parts + 1
  | .iface _ d => uptoBulk d + 1
  | .map entries => uptoBulkEntries entries + 1
  | .held _ => 1
def uptoBulkAll {H : Type} : List (DataW H) → Nat
  | [] => 0
  | d :: r => uptoBulk d + uptoBulkAll r
def uptoBulkEntries {H : Type} : List (Lit × DataW H) → Nat
  | [] => 0
  | x :: r => uptoBulkEntry x + uptoBulkEntries r
def uptoBulkEntry {H : Type} : Lit × DataW H → Nat
  | (.string bytes, d) => bytes.length + uptoBulk d + 1
  | (_, d) => uptoBulk d + 1
 end
def uptoSmall : (H : Type) → List (DataW H) → Bool := fun _ ds => decide (uptoBulkAll ds ≤ 1048576)
def OpenSpec.upto (s : _root_.Go.ChangeSpec) : _root_.Go.OpenSpec := { _root_.Go.OpenSpec.ofChange s with cond := some uptoSmall }

/-- 'convoylaw20.SnapshotNumbers', WHERE WHAT IT READS IS OF BULK AT MOST 1048576: true; the input reads as it did. -/
def snapshotNumbersUptoRow : OpenClaim := { program := "ytglmmljmieodaaa", sum := "1b236d1aafa7abcc8bf207d4227ba3b681181363e849321a8eacb2eaa9c87191", func := "convoy/convoylaw20.SnapshotNumbers", spec := "snapshotNumbers", plainKeys := false, apart := false, narrowed := true }
def SnapshotNumbersUptoSaid : Prop := snapshotNumbersUptoRow.holds Try.pinned (OpenSpec.upto snapshotNumbersSpec)

/-- 'convoylaw20.SnapshotTells', WHERE WHAT IT READS IS OF BULK AT MOST 1048576: true; the input reads as it did. -/
def snapshotTellsUptoRow : OpenClaim := { program := "ytglmmljmieodaaa", sum := "1b236d1aafa7abcc8bf207d4227ba3b681181363e849321a8eacb2eaa9c87191", func := "convoy/convoylaw20.SnapshotTells", spec := "snapshotTells", inPlace := ["internal/abi.NoEscape", "internal/bytealg.MakeNoZero"], unfollowed := true, recurses := true, plainKeys := false, apart := false, narrowed := true }
def SnapshotTellsUptoSaid : Prop := snapshotTellsUptoRow.holds Try.pinned (OpenSpec.upto snapshotTellsSpec)

/-- 'convoylaw20.SnapshotSums', WHERE WHAT IT READS IS OF BULK AT MOST 1048576: true; the input reads as it did. -/
def snapshotSumsUptoRow : OpenClaim := { program := "ytglmmljmieodaaa", sum := "1b236d1aafa7abcc8bf207d4227ba3b681181363e849321a8eacb2eaa9c87191", func := "convoy/convoylaw20.SnapshotSums", spec := "snapshotSums", inPlace := ["internal/abi.NoEscape", "internal/bytealg.MakeNoZero", "internal/bytealg.abigen_runtime_cmpstring"], unfollowed := true, recurses := true, plainKeys := false, apart := false, narrowed := true }
def SnapshotSumsUptoSaid : Prop := snapshotSumsUptoRow.holds Try.pinned (OpenSpec.upto snapshotSumsSpec)

/-- 'convoylaw20.SnapshotBack', WHERE WHAT IT READS IS OF BULK AT MOST 1048576: true; the input reads as it did. -/
def snapshotBackUptoRow : OpenClaim := { program := "ytglmmljmieodaaa", sum := "1b236d1aafa7abcc8bf207d4227ba3b681181363e849321a8eacb2eaa9c87191", func := "convoy/convoylaw20.SnapshotBack", spec := "snapshotBack", inPlace := ["internal/abi.NoEscape", "internal/bytealg.MakeNoZero", "maps.clone", "internal/bytealg.abigen_runtime_cmpstring"], unfollowed := true, recurses := true, plainKeys := false, apart := false, narrowed := true }
def SnapshotBackUptoSaid : Prop := snapshotBackUptoRow.holds Try.pinned (OpenSpec.upto snapshotBackSpec)

/-- 'convoylaw20.SnapshotChains', WHERE WHAT IT READS IS OF BULK AT MOST 1048576: true; the input reads as it did. -/
def snapshotChainsUptoRow : OpenClaim := { program := "ytglmmljmieodaaa", sum := "1b236d1aafa7abcc8bf207d4227ba3b681181363e849321a8eacb2eaa9c87191", func := "convoy/convoylaw20.SnapshotChains", spec := "snapshotChains", inPlace := ["maps.clone", "math/bits.Add64", "internal/abi.NoEscape", "internal/bytealg.MakeNoZero", "internal/bytealg.abigen_runtime_cmpstring"], unfollowed := true, recurses := true, plainKeys := false, apart := false, narrowed := true }
def SnapshotChainsUptoSaid : Prop := snapshotChainsUptoRow.holds Try.pinned (OpenSpec.upto snapshotChainsSpec)

end Rows
end Go.Proofs.Ytglmmljmieodaaa
