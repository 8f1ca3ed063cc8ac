/-
  No cell of these rows narrows 'for every input' (looked for: loops, veiled, ifaces, maps, wideKeys, modest, calm, conditions, laid).
  DERIVED. THE GIVEN ROWS OF THIS SEAT. 5 by the template 'for every input the law returns true; each argument reads behind the call as it read before'; 0 by the template 'total and deterministic' (their statements: YtohnaffmcjbpoaaTotals.lean).
  GIVEN WITH THE SEED: the statements are not yours to turn. If you find one false, say at which input.
  Laid BY PROGRAM, IN A SANDBOX (cutbox-rows.mjs): the forced cells as the released guide's own fill.sh prints them over the translation 720dc0487bfc5a06… (all of the seat's roots in one cut). By AI agents, Wed Nov 11 2026. No macro, syntax, notation, axiom, sorry.
-/
import Derived.Test.YtohnaffmcjbpoaaChecked
import GoSem.Claim
import GoSem.ClaimJoined
import GoSem.ClaimMapViews
import Derived.JoinedTies
import Derived.KernelRfl
namespace Go.Proofs.Ytohnaffmcjbpoaa
/- THE CELL 'sum', in the pinned program and in every row, IS THE sha256 OF THE DUMP (.gsa) THAT YtohnaffmcjbpoaaProg.lean LOADS. Nothing in Lean hashes anything: it is a label: what it is worth is what the hold of that sum in a sandbox is worth. -/
noncomputable def Try.pinned : Pinned := { name := "ytohnaffmcjbpoaa", sum := "720dc0487bfc5a065124fab59e84e5b1799877c765a6f6b18f31a30f0bd6c199", checked := Try.checked }
namespace Rows
def none {H : Type} : Left H := { results := [], args := [] }

/-- 'letterbaglaw34.LoadChecks': WHATEVER THE INPUT: true; the input reads as it did. -/
def loadChecksSpec : ChangeSpec := { name := "loadChecks", fn := fun _ => fun
  | [d1, d2, d3, d4, d5] => { results := [.lit (.bool true)], args := [d1, d2, d3, d4, d5] }
  | _ => none }
def loadChecksRow : OpenClaim := { program := "ytohnaffmcjbpoaa", sum := "720dc0487bfc5a065124fab59e84e5b1799877c765a6f6b18f31a30f0bd6c199", func := "letterbag/letterbaglaw34.LoadChecks", spec := "loadChecks", unfollowed := true, recurses := true, plainKeys := false, apart := false }
def LoadChecksSaid : Prop := loadChecksRow.holds Try.pinned (OpenSpec.ofChange loadChecksSpec)

/-- ITS FALSE NEIGHBOUR: 'it returns false'. Refute it at one input. -/
def loadChecksWrong : ChangeSpec := { name := "loadChecks", fn := fun _ => fun
  | [d1, d2, d3, d4, d5] => { results := [.lit (.bool false)], args := [d1, d2, d3, d4, d5] }
  | _ => none }
def LoadChecksWrongFalsely : Prop := loadChecksRow.holds Try.pinned (OpenSpec.ofChange loadChecksWrong)

/-- 'letterbaglaw34.LoadMost': WHATEVER THE INPUT: true; the input reads as it did. -/
def loadMostSpec : ChangeSpec := { name := "loadMost", fn := fun _ => fun
  | [d1, d2, d3, d4, d5] => { results := [.lit (.bool true)], args := [d1, d2, d3, d4, d5] }
  | _ => none }
def loadMostRow : OpenClaim := { program := "ytohnaffmcjbpoaa", sum := "720dc0487bfc5a065124fab59e84e5b1799877c765a6f6b18f31a30f0bd6c199", func := "letterbag/letterbaglaw34.LoadMost", spec := "loadMost", unfollowed := true, recurses := true, plainKeys := false, apart := false }
def LoadMostSaid : Prop := loadMostRow.holds Try.pinned (OpenSpec.ofChange loadMostSpec)

/-- ITS FALSE NEIGHBOUR: 'it returns false'. Refute it at one input. -/
def loadMostWrong : ChangeSpec := { name := "loadMost", fn := fun _ => fun
  | [d1, d2, d3, d4, d5] => { results := [.lit (.bool false)], args := [d1, d2, d3, d4, d5] }
  | _ => none }
def LoadMostWrongFalsely : Prop := loadMostRow.holds Try.pinned (OpenSpec.ofChange loadMostWrong)

/-- 'letterbaglaw34.LoadFirst': WHATEVER THE INPUT: true; the input reads as it did. -/
def loadFirstSpec : ChangeSpec := { name := "loadFirst", fn := fun _ => fun
  | [d1, d2, d3, d4, d5, d6] => { results := [.lit (.bool true)], args := [d1, d2, d3, d4, d5, d6] }
  | _ => none }
def loadFirstRow : OpenClaim := { program := "ytohnaffmcjbpoaa", sum := "720dc0487bfc5a065124fab59e84e5b1799877c765a6f6b18f31a30f0bd6c199", func := "letterbag/letterbaglaw34.LoadFirst", spec := "loadFirst", unfollowed := true, recurses := true, plainKeys := false, apart := false }
def LoadFirstSaid : Prop := loadFirstRow.holds Try.pinned (OpenSpec.ofChange loadFirstSpec)

/-- ITS FALSE NEIGHBOUR: 'it returns false'. Refute it at one input. -/
def loadFirstWrong : ChangeSpec := { name := "loadFirst", fn := fun _ => fun
  | [d1, d2, d3, d4, d5, d6] => { results := [.lit (.bool false)], args := [d1, d2, d3, d4, d5, d6] }
  | _ => none }
def LoadFirstWrongFalsely : Prop := loadFirstRow.holds Try.pinned (OpenSpec.ofChange loadFirstWrong)

/-- 'letterbaglaw34.LoadMore': WHATEVER THE INPUT: true; the input reads as it did. -/
def loadMoreSpec : ChangeSpec := { name := "loadMore", fn := fun _ => fun
  | [d1, d2, d3, d4, d5, d6] => { results := [.lit (.bool true)], args := [d1, d2, d3, d4, d5, d6] }
  | _ => none }
def loadMoreRow : OpenClaim := { program := "ytohnaffmcjbpoaa", sum := "720dc0487bfc5a065124fab59e84e5b1799877c765a6f6b18f31a30f0bd6c199", func := "letterbag/letterbaglaw34.LoadMore", spec := "loadMore", unfollowed := true, recurses := true, plainKeys := false, apart := false }
def LoadMoreSaid : Prop := loadMoreRow.holds Try.pinned (OpenSpec.ofChange loadMoreSpec)

/-- ITS FALSE NEIGHBOUR: 'it returns false'. Refute it at one input. -/
def loadMoreWrong : ChangeSpec := { name := "loadMore", fn := fun _ => fun
  | [d1, d2, d3, d4, d5, d6] => { results := [.lit (.bool false)], args := [d1, d2, d3, d4, d5, d6] }
  | _ => none }
def LoadMoreWrongFalsely : Prop := loadMoreRow.holds Try.pinned (OpenSpec.ofChange loadMoreWrong)

/-- 'letterbaglaw34.LoadParts': WHATEVER THE INPUT: true; the input reads as it did. -/
def loadPartsSpec : ChangeSpec := { name := "loadParts", fn := fun _ => fun
  | [d1, d2, d3, d4, d5] => { results := [.lit (.bool true)], args := [d1, d2, d3, d4, d5] }
  | _ => none }
def loadPartsRow : OpenClaim := { program := "ytohnaffmcjbpoaa", sum := "720dc0487bfc5a065124fab59e84e5b1799877c765a6f6b18f31a30f0bd6c199", func := "letterbag/letterbaglaw34.LoadParts", spec := "loadParts", unfollowed := true, recurses := true, plainKeys := false, apart := false }
def LoadPartsSaid : Prop := loadPartsRow.holds Try.pinned (OpenSpec.ofChange loadPartsSpec)

/-- ITS FALSE NEIGHBOUR: 'it returns false'. Refute it at one input. -/
def loadPartsWrong : ChangeSpec := { name := "loadParts", fn := fun _ => fun
  | [d1, d2, d3, d4, d5] => { results := [.lit (.bool false)], args := [d1, d2, d3, d4, d5] }
  | _ => none }
def LoadPartsWrongFalsely : Prop := loadPartsRow.holds Try.pinned (OpenSpec.ofChange loadPartsWrong)

/- THE SECOND FORM. 'bulk': how many values and letters a reading holds, each counted each time it is reached (what is shared counts as often as it is met; a slice's spare places count too). A statement '..UptoSaid' is the law's where the arguments, and the package variables that the reading takes, are together of bulk at most 1048576: NARROWER than '..Said'. Prove '..Said' where nothing that the law and all that it calls make is longer than what came in: it says more and counts as full. Else prove '..UptoSaid'. A law counts once. -/
mutual
def uptoBulk {H : Type} : DataW H → Nat
  | .lit (.string bytes) => bytes.length + 1
  | .lit _ => 1
  | .nil => 1
  | .ptr d => uptoBulk d + 1
  | .slice elems spare => uptoBulkAll elems + uptoBulkAll spare + 1
  | .agg parts => uptoBulkAll parts + 1
  | .iface _ d => uptoBulk d + 1
  | .map entries => uptoBulkEntries entries + 1
  | .held _ => 1
def uptoBulkAll {H : Type} : List (DataW H) → Nat
  | [] => 0
  | d :: r => uptoBulk d + uptoBulkAll r
def uptoBulkEntries {H : Type} : List (Lit × DataW H) → Nat
  | [] => 0
  | x :: r => uptoBulkEntry x + uptoBulkEntries r
def uptoBulkEntry {H : Type} : Lit × DataW H → Nat
  | (.string bytes, d) => bytes.length + uptoBulk d + 1
  | (_, d) => uptoBulk d + 1
 end
def uptoSmall : (H : Type) → List (DataW H) → Bool := fun _ ds => decide (uptoBulkAll ds ≤ 1048576)
def OpenSpec.upto (s : _root_.Go.ChangeSpec) : _root_.Go.OpenSpec := { _root_.Go.OpenSpec.ofChange s with cond := some uptoSmall }

/-- 'letterbaglaw34.LoadChecks', WHERE WHAT IT READS IS OF BULK AT MOST 1048576: true; the input reads as it did. -/
def loadChecksUptoRow : OpenClaim := { program := "ytohnaffmcjbpoaa", sum := "720dc0487bfc5a065124fab59e84e5b1799877c765a6f6b18f31a30f0bd6c199", func := "letterbag/letterbaglaw34.LoadChecks", spec := "loadChecks", unfollowed := true, recurses := true, plainKeys := false, apart := false, narrowed := true }
def LoadChecksUptoSaid : Prop := loadChecksUptoRow.holds Try.pinned (OpenSpec.upto loadChecksSpec)

/-- 'letterbaglaw34.LoadMost', WHERE WHAT IT READS IS OF BULK AT MOST 1048576: true; the input reads as it did. -/
def loadMostUptoRow : OpenClaim := { program := "ytohnaffmcjbpoaa", sum := "720dc0487bfc5a065124fab59e84e5b1799877c765a6f6b18f31a30f0bd6c199", func := "letterbag/letterbaglaw34.LoadMost", spec := "loadMost", unfollowed := true, recurses := true, plainKeys := false, apart := false, narrowed := true }
def LoadMostUptoSaid : Prop := loadMostUptoRow.holds Try.pinned (OpenSpec.upto loadMostSpec)

/-- 'letterbaglaw34.LoadFirst', WHERE WHAT IT READS IS OF BULK AT MOST 1048576: true; the input reads as it did. -/
def loadFirstUptoRow : OpenClaim := { program := "ytohnaffmcjbpoaa", sum := "720dc0487bfc5a065124fab59e84e5b1799877c765a6f6b18f31a30f0bd6c199", func := "letterbag/letterbaglaw34.LoadFirst", spec := "loadFirst", unfollowed := true, recurses := true, plainKeys := false, apart := false, narrowed := true }
def LoadFirstUptoSaid : Prop := loadFirstUptoRow.holds Try.pinned (OpenSpec.upto loadFirstSpec)

/-- 'letterbaglaw34.LoadMore', WHERE WHAT IT READS IS OF BULK AT MOST 1048576: true; the input reads as it did. -/
def loadMoreUptoRow : OpenClaim := { program := "ytohnaffmcjbpoaa", sum := "720dc0487bfc5a065124fab59e84e5b1799877c765a6f6b18f31a30f0bd6c199", func := "letterbag/letterbaglaw34.LoadMore", spec := "loadMore", unfollowed := true, recurses := true, plainKeys := false, apart := false, narrowed := true }
def LoadMoreUptoSaid : Prop := loadMoreUptoRow.holds Try.pinned (OpenSpec.upto loadMoreSpec)

/-- 'letterbaglaw34.LoadParts', WHERE WHAT IT READS IS OF BULK AT MOST 1048576: true; the input reads as it did. -/
def loadPartsUptoRow : OpenClaim := { program := "ytohnaffmcjbpoaa", sum := "720dc0487bfc5a065124fab59e84e5b1799877c765a6f6b18f31a30f0bd6c199", func := "letterbag/letterbaglaw34.LoadParts", spec := "loadParts", unfollowed := true, recurses := true, plainKeys := false, apart := false, narrowed := true }
def LoadPartsUptoSaid : Prop := loadPartsUptoRow.holds Try.pinned (OpenSpec.upto loadPartsSpec)

end Rows
end Go.Proofs.Ytohnaffmcjbpoaa
