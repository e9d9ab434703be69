/-
  No cell of these rows narrows 'for every input' (looked for: loops, veiled, ifaces, maps, wideKeys, modest, calm, conditions, laid).
  DERIVED. THE GIVEN ROWS OF THIS SEAT. 5 by the template 'for every input the law returns true; each argument reads behind the call as it read before'; 0 by the template 'total and deterministic' (their statements: YtfeceahffkbjnaaTotals.lean).
  GIVEN WITH THE SEED: the statements are not yours to turn. If you find one false, say at which input.
  Laid BY PROGRAM, IN A SANDBOX (cutbox-rows.mjs): the forced cells as the released guide's own fill.sh prints them over the translation f7367db59ec76474… (all of the seat's roots in one cut). By AI agents, Wed Nov 11 2026. No macro, syntax, notation, axiom, sorry.
-/
import Derived.Test.YtfeceahffkbjnaaChecked
import GoSem.Claim
import GoSem.ClaimJoined
import GoSem.ClaimMapViews
import Derived.JoinedTies
import Derived.KernelRfl
namespace Go.Proofs.Ytfeceahffkbjnaa
/- THE CELL 'sum', in the pinned program and in every row, IS THE sha256 OF THE DUMP (.gsa) THAT YtfeceahffkbjnaaProg.lean LOADS. Nothing in Lean hashes anything: it is a label: what it is worth is what the hold of that sum in a sandbox is worth. -/
noncomputable def Try.pinned : Pinned := { name := "ytfeceahffkbjnaa", sum := "f7367db59ec76474ce78fdb088722cc8225347289944d6e711fa7382cd86647f", checked := Try.checked }
namespace Rows
def none {H : Type} : Left H := { results := [], args := [] }

/-- 'convoylaw19.SketchAbove': WHATEVER THE INPUT: true; the input reads as it did. -/
def sketchAboveSpec : ChangeSpec := { name := "sketchAbove", fn := fun _ => fun
  | [d1, d2, d3] => { results := [.lit (.bool true)], args := [d1, d2, d3] }
  | _ => none }
def sketchAboveRow : OpenClaim := { program := "ytfeceahffkbjnaa", sum := "f7367db59ec76474ce78fdb088722cc8225347289944d6e711fa7382cd86647f", func := "convoy/convoylaw19.SketchAbove", spec := "sketchAbove", plainKeys := false, apart := false }
def SketchAboveSaid : Prop := sketchAboveRow.holds Try.pinned (OpenSpec.ofChange sketchAboveSpec)

/-- ITS FALSE NEIGHBOUR: 'it returns false'. Refute it at one input. -/
def sketchAboveWrong : ChangeSpec := { name := "sketchAbove", fn := fun _ => fun
  | [d1, d2, d3] => { results := [.lit (.bool false)], args := [d1, d2, d3] }
  | _ => none }
def SketchAboveWrongFalsely : Prop := sketchAboveRow.holds Try.pinned (OpenSpec.ofChange sketchAboveWrong)

/-- 'convoylaw19.SketchPlays': WHATEVER THE INPUT: true; the input reads as it did. -/
def sketchPlaysSpec : ChangeSpec := { name := "sketchPlays", fn := fun _ => fun
  | [d1, d2, d3] => { results := [.lit (.bool true)], args := [d1, d2, d3] }
  | _ => none }
def sketchPlaysRow : OpenClaim := { program := "ytfeceahffkbjnaa", sum := "f7367db59ec76474ce78fdb088722cc8225347289944d6e711fa7382cd86647f", func := "convoy/convoylaw19.SketchPlays", spec := "sketchPlays", plainKeys := false, apart := false }
def SketchPlaysSaid : Prop := sketchPlaysRow.holds Try.pinned (OpenSpec.ofChange sketchPlaysSpec)

/-- ITS FALSE NEIGHBOUR: 'it returns false'. Refute it at one input. -/
def sketchPlaysWrong : ChangeSpec := { name := "sketchPlays", fn := fun _ => fun
  | [d1, d2, d3] => { results := [.lit (.bool false)], args := [d1, d2, d3] }
  | _ => none }
def SketchPlaysWrongFalsely : Prop := sketchPlaysRow.holds Try.pinned (OpenSpec.ofChange sketchPlaysWrong)

/-- 'convoylaw19.SketchMerges': WHATEVER THE INPUT: true; the input reads as it did. -/
def sketchMergesSpec : ChangeSpec := { name := "sketchMerges", fn := fun _ => fun
  | [d1, d2, d3] => { results := [.lit (.bool true)], args := [d1, d2, d3] }
  | _ => none }
def sketchMergesRow : OpenClaim := { program := "ytfeceahffkbjnaa", sum := "f7367db59ec76474ce78fdb088722cc8225347289944d6e711fa7382cd86647f", func := "convoy/convoylaw19.SketchMerges", spec := "sketchMerges", plainKeys := false, apart := false }
def SketchMergesSaid : Prop := sketchMergesRow.holds Try.pinned (OpenSpec.ofChange sketchMergesSpec)

/-- ITS FALSE NEIGHBOUR: 'it returns false'. Refute it at one input. -/
def sketchMergesWrong : ChangeSpec := { name := "sketchMerges", fn := fun _ => fun
  | [d1, d2, d3] => { results := [.lit (.bool false)], args := [d1, d2, d3] }
  | _ => none }
def SketchMergesWrongFalsely : Prop := sketchMergesRow.holds Try.pinned (OpenSpec.ofChange sketchMergesWrong)

/-- 'convoylaw19.SketchHot': WHATEVER THE INPUT: true; the input reads as it did. -/
def sketchHotSpec : ChangeSpec := { name := "sketchHot", fn := fun _ => fun
  | [d1, d2, d3] => { results := [.lit (.bool true)], args := [d1, d2, d3] }
  | _ => none }
def sketchHotRow : OpenClaim := { program := "ytfeceahffkbjnaa", sum := "f7367db59ec76474ce78fdb088722cc8225347289944d6e711fa7382cd86647f", func := "convoy/convoylaw19.SketchHot", spec := "sketchHot", inPlace := ["internal/bytealg.abigen_runtime_cmpstring"], unfollowed := true, recurses := true, plainKeys := false, apart := false }
def SketchHotSaid : Prop := sketchHotRow.holds Try.pinned (OpenSpec.ofChange sketchHotSpec)

/-- ITS FALSE NEIGHBOUR: 'it returns false'. Refute it at one input. -/
def sketchHotWrong : ChangeSpec := { name := "sketchHot", fn := fun _ => fun
  | [d1, d2, d3] => { results := [.lit (.bool false)], args := [d1, d2, d3] }
  | _ => none }
def SketchHotWrongFalsely : Prop := sketchHotRow.holds Try.pinned (OpenSpec.ofChange sketchHotWrong)

/-- 'convoylaw19.SketchNil': WHATEVER THE INPUT: true; the input reads as it did. -/
def sketchNilSpec : ChangeSpec := { name := "sketchNil", fn := fun _ => fun
  | [d] => { results := [.lit (.bool true)], args := [d] }
  | _ => none }
def sketchNilRow : OpenClaim := { program := "ytfeceahffkbjnaa", sum := "f7367db59ec76474ce78fdb088722cc8225347289944d6e711fa7382cd86647f", func := "convoy/convoylaw19.SketchNil", spec := "sketchNil", inPlace := ["internal/bytealg.abigen_runtime_cmpstring"], unfollowed := true, recurses := true, plainKeys := false, apart := false }
def SketchNilSaid : Prop := sketchNilRow.holds Try.pinned (OpenSpec.ofChange sketchNilSpec)

/-- ITS FALSE NEIGHBOUR: 'it returns false'. Refute it at one input. -/
def sketchNilWrong : ChangeSpec := { name := "sketchNil", fn := fun _ => fun
  | [d] => { results := [.lit (.bool false)], args := [d] }
  | _ => none }
def SketchNilWrongFalsely : Prop := sketchNilRow.holds Try.pinned (OpenSpec.ofChange sketchNilWrong)

/- THE SECOND FORM. 'bulk': how many values and letters a reading holds, each counted each time it is reached (what is shared counts as often as it is met; a slice's spare places count too). A statement '..UptoSaid' is the law's where the arguments, and the package variables that the reading takes, are together of bulk at most 1048576: NARROWER than '..Said'. Prove '..Said' where nothing that the law and all that it calls make is longer than what came in: it says more and counts as full. Else prove '..UptoSaid'. A law counts once. -/
mutual
def uptoBulk {H : Type} : DataW H → Nat
  | .lit (.string bytes) => bytes.length + 1
  | .lit _ => 1
  | .nil => 1
  | .ptr d => uptoBulk d + 1
  | .slice elems spare => uptoBulkAll elems + uptoBulkAll spare + 1
  | .agg parts => uptoBulkAll parts + 1
  | .iface _ d => uptoBulk d + 1
  | .map entries => uptoBulkEntries entries + 1
  | .held _ => 1
def uptoBulkAll {H : Type} : List (DataW H) → Nat
  | [] => 0
  | d :: r => uptoBulk d + uptoBulkAll r
def uptoBulkEntries {H : Type} : List (Lit × DataW H) → Nat
  | [] => 0
  | x :: r => uptoBulkEntry x + uptoBulkEntries r
def uptoBulkEntry {H : Type} : Lit × DataW H → Nat
  | (.string bytes, d) => bytes.length + uptoBulk d + 1
  | (_, d) => uptoBulk d + 1
 end
def uptoSmall : (H : Type) → List (DataW H) → Bool := fun _ ds => decide (uptoBulkAll ds ≤ 1048576)
def OpenSpec.upto (s : _root_.Go.ChangeSpec) : _root_.Go.OpenSpec := { _root_.Go.OpenSpec.ofChange s with cond := some uptoSmall }

/-- 'convoylaw19.SketchAbove', WHERE WHAT IT READS IS OF BULK AT MOST 1048576: true; the input reads as it did. -/
def sketchAboveUptoRow : OpenClaim := { program := "ytfeceahffkbjnaa", sum := "f7367db59ec76474ce78fdb088722cc8225347289944d6e711fa7382cd86647f", func := "convoy/convoylaw19.SketchAbove", spec := "sketchAbove", plainKeys := false, apart := false, narrowed := true }
def SketchAboveUptoSaid : Prop := sketchAboveUptoRow.holds Try.pinned (OpenSpec.upto sketchAboveSpec)

/-- 'convoylaw19.SketchPlays', WHERE WHAT IT READS IS OF BULK AT MOST 1048576: true; the input reads as it did. -/
def sketchPlaysUptoRow : OpenClaim := { program := "ytfeceahffkbjnaa", sum := "f7367db59ec76474ce78fdb088722cc8225347289944d6e711fa7382cd86647f", func := "convoy/convoylaw19.SketchPlays", spec := "sketchPlays", plainKeys := false, apart := false, narrowed := true }
def SketchPlaysUptoSaid : Prop := sketchPlaysUptoRow.holds Try.pinned (OpenSpec.upto sketchPlaysSpec)

/-- 'convoylaw19.SketchMerges', WHERE WHAT IT READS IS OF BULK AT MOST 1048576: true; the input reads as it did. -/
def sketchMergesUptoRow : OpenClaim := { program := "ytfeceahffkbjnaa", sum := "f7367db59ec76474ce78fdb088722cc8225347289944d6e711fa7382cd86647f", func := "convoy/convoylaw19.SketchMerges", spec := "sketchMerges", plainKeys := false, apart := false, narrowed := true }
def SketchMergesUptoSaid : Prop := sketchMergesUptoRow.holds Try.pinned (OpenSpec.upto sketchMergesSpec)

/-- 'convoylaw19.SketchHot', WHERE WHAT IT READS IS OF BULK AT MOST 1048576: true; the input reads as it did. -/
def sketchHotUptoRow : OpenClaim := { program := "ytfeceahffkbjnaa", sum := "f7367db59ec76474ce78fdb088722cc8225347289944d6e711fa7382cd86647f", func := "convoy/convoylaw19.SketchHot", spec := "sketchHot", inPlace := ["internal/bytealg.abigen_runtime_cmpstring"], unfollowed := true, recurses := true, plainKeys := false, apart := false, narrowed := true }
def SketchHotUptoSaid : Prop := sketchHotUptoRow.holds Try.pinned (OpenSpec.upto sketchHotSpec)

/-- 'convoylaw19.SketchNil', WHERE WHAT IT READS IS OF BULK AT MOST 1048576: true; the input reads as it did. -/
def sketchNilUptoRow : OpenClaim := { program := "ytfeceahffkbjnaa", sum := "f7367db59ec76474ce78fdb088722cc8225347289944d6e711fa7382cd86647f", func := "convoy/convoylaw19.SketchNil", spec := "sketchNil", inPlace := ["internal/bytealg.abigen_runtime_cmpstring"], unfollowed := true, recurses := true, plainKeys := false, apart := false, narrowed := true }
def SketchNilUptoSaid : Prop := sketchNilUptoRow.holds Try.pinned (OpenSpec.upto sketchNilSpec)

end Rows
end Go.Proofs.Ytfeceahffkbjnaa
