/-
  No cell of these rows narrows 'for every input' (looked for: loops, veiled, ifaces, maps, wideKeys, modest, calm, conditions, laid).
  DERIVED. THE GIVEN ROWS OF THIS SEAT. 5 by the template 'for every input the law returns true; each argument reads behind the call as it read before'; 0 by the template 'total and deterministic' (their statements: YtlhjioapbgnjfaaTotals.lean).
  GIVEN WITH THE SEED: the statements are not yours to turn. If you find one false, say at which input.
  Laid BY PROGRAM, IN A SANDBOX (cutbox-rows.mjs): the forced cells as the released guide's own fill.sh prints them over the translation 930b2f75d9d3809b… (all of the seat's roots in one cut). By AI agents, Wed Nov 11 2026. No macro, syntax, notation, axiom, sorry.
-/
import Derived.Test.YtlhjioapbgnjfaaChecked
import GoSem.Claim
import GoSem.ClaimJoined
import GoSem.ClaimMapViews
import Derived.JoinedTies
import Derived.KernelRfl
namespace Go.Proofs.Ytlhjioapbgnjfaa
/- THE CELL 'sum', in the pinned program and in every row, IS THE sha256 OF THE DUMP (.gsa) THAT YtlhjioapbgnjfaaProg.lean LOADS. Nothing in Lean hashes anything: it is a label: what it is worth is what the hold of that sum in a sandbox is worth. -/
noncomputable def Try.pinned : Pinned := { name := "ytlhjioapbgnjfaa", sum := "930b2f75d9d3809be8d4ddf6468d85dec96780b927018d884cb57e34cc1b32a7", checked := Try.checked }
namespace Rows
def none {H : Type} : Left H := { results := [], args := [] }

/-- 'convoylaw10.MemoRecent': WHATEVER THE INPUT: true; the input reads as it did. -/
def memoRecentSpec : ChangeSpec := { name := "memoRecent", fn := fun _ => fun
  | [d1, d2] => { results := [.lit (.bool true)], args := [d1, d2] }
  | _ => none }
def memoRecentRow : OpenClaim := { program := "ytlhjioapbgnjfaa", sum := "930b2f75d9d3809be8d4ddf6468d85dec96780b927018d884cb57e34cc1b32a7", func := "convoy/convoylaw10.MemoRecent", spec := "memoRecent", inPlace := ["math/bits.Add64"], unfollowed := true, recurses := true, plainKeys := false, apart := false }
def MemoRecentSaid : Prop := memoRecentRow.holds Try.pinned (OpenSpec.ofChange memoRecentSpec)

/-- ITS FALSE NEIGHBOUR: 'it returns false'. Refute it at one input. -/
def memoRecentWrong : ChangeSpec := { name := "memoRecent", fn := fun _ => fun
  | [d1, d2] => { results := [.lit (.bool false)], args := [d1, d2] }
  | _ => none }
def MemoRecentWrongFalsely : Prop := memoRecentRow.holds Try.pinned (OpenSpec.ofChange memoRecentWrong)

/-- 'convoylaw10.MemoKeeps': WHATEVER THE INPUT: true; the input reads as it did. -/
def memoKeepsSpec : ChangeSpec := { name := "memoKeeps", fn := fun _ => fun
  | [d1, d2, d3] => { results := [.lit (.bool true)], args := [d1, d2, d3] }
  | _ => none }
def memoKeepsRow : OpenClaim := { program := "ytlhjioapbgnjfaa", sum := "930b2f75d9d3809be8d4ddf6468d85dec96780b927018d884cb57e34cc1b32a7", func := "convoy/convoylaw10.MemoKeeps", spec := "memoKeeps", inPlace := ["math/bits.Add64"], unfollowed := true, recurses := true, plainKeys := false, apart := false }
def MemoKeepsSaid : Prop := memoKeepsRow.holds Try.pinned (OpenSpec.ofChange memoKeepsSpec)

/-- ITS FALSE NEIGHBOUR: 'it returns false'. Refute it at one input. -/
def memoKeepsWrong : ChangeSpec := { name := "memoKeeps", fn := fun _ => fun
  | [d1, d2, d3] => { results := [.lit (.bool false)], args := [d1, d2, d3] }
  | _ => none }
def MemoKeepsWrongFalsely : Prop := memoKeepsRow.holds Try.pinned (OpenSpec.ofChange memoKeepsWrong)

/-- 'convoylaw10.MemoPlays': WHATEVER THE INPUT: true; the input reads as it did. -/
def memoPlaysSpec : ChangeSpec := { name := "memoPlays", fn := fun _ => fun
  | [d1, d2] => { results := [.lit (.bool true)], args := [d1, d2] }
  | _ => none }
def memoPlaysRow : OpenClaim := { program := "ytlhjioapbgnjfaa", sum := "930b2f75d9d3809be8d4ddf6468d85dec96780b927018d884cb57e34cc1b32a7", func := "convoy/convoylaw10.MemoPlays", spec := "memoPlays", inPlace := ["math/bits.Add64", "maps.clone"], unfollowed := true, recurses := true, plainKeys := false, apart := false }
def MemoPlaysSaid : Prop := memoPlaysRow.holds Try.pinned (OpenSpec.ofChange memoPlaysSpec)

/-- ITS FALSE NEIGHBOUR: 'it returns false'. Refute it at one input. -/
def memoPlaysWrong : ChangeSpec := { name := "memoPlays", fn := fun _ => fun
  | [d1, d2] => { results := [.lit (.bool false)], args := [d1, d2] }
  | _ => none }
def MemoPlaysWrongFalsely : Prop := memoPlaysRow.holds Try.pinned (OpenSpec.ofChange memoPlaysWrong)

/-- 'convoylaw10.MemoNil': WHATEVER THE INPUT: true; the input reads as it did. -/
def memoNilSpec : ChangeSpec := { name := "memoNil", fn := fun _ => fun
  | [d1, d2, d3] => { results := [.lit (.bool true)], args := [d1, d2, d3] }
  | _ => none }
def memoNilRow : OpenClaim := { program := "ytlhjioapbgnjfaa", sum := "930b2f75d9d3809be8d4ddf6468d85dec96780b927018d884cb57e34cc1b32a7", func := "convoy/convoylaw10.MemoNil", spec := "memoNil", inPlace := ["math/bits.Add64", "maps.clone"], unfollowed := true, recurses := true, plainKeys := false, apart := false }
def MemoNilSaid : Prop := memoNilRow.holds Try.pinned (OpenSpec.ofChange memoNilSpec)

/-- ITS FALSE NEIGHBOUR: 'it returns false'. Refute it at one input. -/
def memoNilWrong : ChangeSpec := { name := "memoNil", fn := fun _ => fun
  | [d1, d2, d3] => { results := [.lit (.bool false)], args := [d1, d2, d3] }
  | _ => none }
def MemoNilWrongFalsely : Prop := memoNilRow.holds Try.pinned (OpenSpec.ofChange memoNilWrong)

/-- 'convoylaw10.MemoOf': WHATEVER THE INPUT: true; the input reads as it did. -/
def memoOfSpec : ChangeSpec := { name := "memoOf", fn := fun _ => fun
  | [d1, d2, d3] => { results := [.lit (.bool true)], args := [d1, d2, d3] }
  | _ => none }
def memoOfRow : OpenClaim := { program := "ytlhjioapbgnjfaa", sum := "930b2f75d9d3809be8d4ddf6468d85dec96780b927018d884cb57e34cc1b32a7", func := "convoy/convoylaw10.MemoOf", spec := "memoOf", inPlace := ["math/bits.Add64", "maps.clone"], unfollowed := true, recurses := true, plainKeys := false, apart := false }
def MemoOfSaid : Prop := memoOfRow.holds Try.pinned (OpenSpec.ofChange memoOfSpec)

/-- ITS FALSE NEIGHBOUR: 'it returns false'. Refute it at one input. -/
def memoOfWrong : ChangeSpec := { name := "memoOf", fn := fun _ => fun
  | [d1, d2, d3] => { results := [.lit (.bool false)], args := [d1, d2, d3] }
  | _ => none }
def MemoOfWrongFalsely : Prop := memoOfRow.holds Try.pinned (OpenSpec.ofChange memoOfWrong)

/- THE SECOND FORM. 'bulk': how many values and letters a reading holds, each counted each time it is reached (what is shared counts as often as it is met; a slice's spare places count too). A statement '..UptoSaid' is the law's where the arguments, and the package variables that the reading takes, are together of bulk at most 1048576: NARROWER than '..Said'. Prove '..Said' where nothing that the law and all that it calls make is longer than what came in: it says more and counts as full. Else prove '..UptoSaid'. A law counts once. -/
mutual
def uptoBulk {H : Type} : DataW H → Nat
  | .lit (.string bytes) => bytes.length + 1
  | .lit _ => 1
  | .nil => 1
  | .ptr d => uptoBulk d + 1
  | .slice elems spare => uptoBulkAll elems + uptoBulkAll spare + 1
  | .agg parts => uptoBulkAll parts + 1
  | .iface _ d => uptoBulk d + 1
  | .map entries => uptoBulkEntries entries + 1
  | .held _ => 1
def uptoBulkAll {H : Type} : List (DataW H) → Nat
  | [] => 0
  | d :: r => uptoBulk d + uptoBulkAll r
def uptoBulkEntries {H : Type} : List (Lit × DataW H) → Nat
  | [] => 0
  | x :: r => uptoBulkEntry x + uptoBulkEntries r
def uptoBulkEntry {H : Type} : Lit × DataW H → Nat
  | (.string bytes, d) => bytes.length + uptoBulk d + 1
  | (_, d) => uptoBulk d + 1
 end
def uptoSmall : (H : Type) → List (DataW H) → Bool := fun _ ds => decide (uptoBulkAll ds ≤ 1048576)
def OpenSpec.upto (s : _root_.Go.ChangeSpec) : _root_.Go.OpenSpec := { _root_.Go.OpenSpec.ofChange s with cond := some uptoSmall }

/-- 'convoylaw10.MemoRecent', WHERE WHAT IT READS IS OF BULK AT MOST 1048576: true; the input reads as it did. -/
def memoRecentUptoRow : OpenClaim := { program := "ytlhjioapbgnjfaa", sum := "930b2f75d9d3809be8d4ddf6468d85dec96780b927018d884cb57e34cc1b32a7", func := "convoy/convoylaw10.MemoRecent", spec := "memoRecent", inPlace := ["math/bits.Add64"], unfollowed := true, recurses := true, plainKeys := false, apart := false, narrowed := true }
def MemoRecentUptoSaid : Prop := memoRecentUptoRow.holds Try.pinned (OpenSpec.upto memoRecentSpec)

/-- 'convoylaw10.MemoKeeps', WHERE WHAT IT READS IS OF BULK AT MOST 1048576: true; the input reads as it did. -/
def memoKeepsUptoRow : OpenClaim := { program := "ytlhjioapbgnjfaa", sum := "930b2f75d9d3809be8d4ddf6468d85dec96780b927018d884cb57e34cc1b32a7", func := "convoy/convoylaw10.MemoKeeps", spec := "memoKeeps", inPlace := ["math/bits.Add64"], unfollowed := true, recurses := true, plainKeys := false, apart := false, narrowed := true }
def MemoKeepsUptoSaid : Prop := memoKeepsUptoRow.holds Try.pinned (OpenSpec.upto memoKeepsSpec)

/-- 'convoylaw10.MemoPlays', WHERE WHAT IT READS IS OF BULK AT MOST 1048576: true; the input reads as it did. -/
def memoPlaysUptoRow : OpenClaim := { program := "ytlhjioapbgnjfaa", sum := "930b2f75d9d3809be8d4ddf6468d85dec96780b927018d884cb57e34cc1b32a7", func := "convoy/convoylaw10.MemoPlays", spec := "memoPlays", inPlace := ["math/bits.Add64", "maps.clone"], unfollowed := true, recurses := true, plainKeys := false, apart := false, narrowed := true }
def MemoPlaysUptoSaid : Prop := memoPlaysUptoRow.holds Try.pinned (OpenSpec.upto memoPlaysSpec)

/-- 'convoylaw10.MemoNil', WHERE WHAT IT READS IS OF BULK AT MOST 1048576: true; the input reads as it did. -/
def memoNilUptoRow : OpenClaim := { program := "ytlhjioapbgnjfaa", sum := "930b2f75d9d3809be8d4ddf6468d85dec96780b927018d884cb57e34cc1b32a7", func := "convoy/convoylaw10.MemoNil", spec := "memoNil", inPlace := ["math/bits.Add64", "maps.clone"], unfollowed := true, recurses := true, plainKeys := false, apart := false, narrowed := true }
def MemoNilUptoSaid : Prop := memoNilUptoRow.holds Try.pinned (OpenSpec.upto memoNilSpec)

/-- 'convoylaw10.MemoOf', WHERE WHAT IT READS IS OF BULK AT MOST 1048576: true; the input reads as it did. -/
def memoOfUptoRow : OpenClaim := { program := "ytlhjioapbgnjfaa", sum := "930b2f75d9d3809be8d4ddf6468d85dec96780b927018d884cb57e34cc1b32a7", func := "convoy/convoylaw10.MemoOf", spec := "memoOf", inPlace := ["math/bits.Add64", "maps.clone"], unfollowed := true, recurses := true, plainKeys := false, apart := false, narrowed := true }
def MemoOfUptoSaid : Prop := memoOfUptoRow.holds Try.pinned (OpenSpec.upto memoOfSpec)

end Rows
end Go.Proofs.Ytlhjioapbgnjfaa
