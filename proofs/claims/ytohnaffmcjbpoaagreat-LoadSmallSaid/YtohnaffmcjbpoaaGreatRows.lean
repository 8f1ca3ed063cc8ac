/-
  No cell of these rows narrows 'for every input' (looked for: loops, veiled, ifaces, maps, wideKeys, modest, calm, conditions, laid).
  DERIVED. THE GIVEN ROWS OF THIS SEAT. 3 by the template 'for every input the law returns true; each argument reads behind the call as it read before'; 0 by the template 'total and deterministic' (their statements: YtohnaffmcjbpoaaGreatTotals.lean).
  GIVEN WITH THE SEED: the statements are not yours to turn. If you find one false, say at which input.
  Laid BY PROGRAM, IN A SANDBOX (cutbox-rows.mjs): the forced cells as the released guide's own fill.sh prints them over the translation f40fd698fa8e381f… (all of the seat's roots in one cut). By AI agents, Wed Nov 11 2026. No macro, syntax, notation, axiom, sorry.
-/
import Derived.Test.YtohnaffmcjbpoaaGreatChecked
import GoSem.Claim
import GoSem.ClaimJoined
import GoSem.ClaimMapViews
import Derived.JoinedTies
import Derived.KernelRfl
namespace Go.Proofs.YtohnaffmcjbpoaaGreat
/- THE CELL 'sum', in the pinned program and in every row, IS THE sha256 OF THE DUMP (.gsa) THAT YtohnaffmcjbpoaaGreatProg.lean LOADS. Nothing in Lean hashes anything: it is a label: what it is worth is what the hold of that sum in a sandbox is worth. -/
noncomputable def Tryz.pinned : Pinned := { name := "ytohnaffmcjbpoaagreat", sum := "f40fd698fa8e381ff8be2435cb4281bf98c99f33afca129c2b682bb7bc62a234", checked := Tryz.checked }
namespace Rows
def none {H : Type} : Left H := { results := [], args := [] }

/-- 'letterbaglaw34.LoadTells': WHATEVER THE INPUT: true; the input reads as it did. -/
def loadTellsSpec : ChangeSpec := { name := "loadTells", fn := fun _ => fun
  | [d1, d2, d3, d4] => { results := [.lit (.bool true)], args := [d1, d2, d3, d4] }
  | _ => none }
def loadTellsRow : OpenClaim := { program := "ytohnaffmcjbpoaagreat", sum := "f40fd698fa8e381ff8be2435cb4281bf98c99f33afca129c2b682bb7bc62a234", func := "letterbag/letterbaglaw34.LoadTells", spec := "loadTells", unfollowed := true, recurses := true, plainKeys := false, apart := false }
def LoadTellsSaid : Prop := loadTellsRow.holds Tryz.pinned (OpenSpec.ofChange loadTellsSpec)

/-- ITS FALSE NEIGHBOUR: 'it returns false'. Refute it at one input. -/
def loadTellsWrong : ChangeSpec := { name := "loadTells", fn := fun _ => fun
  | [d1, d2, d3, d4] => { results := [.lit (.bool false)], args := [d1, d2, d3, d4] }
  | _ => none }
def LoadTellsWrongFalsely : Prop := loadTellsRow.holds Tryz.pinned (OpenSpec.ofChange loadTellsWrong)

/-- 'letterbaglaw34.LoadSmall': WHATEVER THE INPUT: true; the input reads as it did. -/
def loadSmallSpec : ChangeSpec := { name := "loadSmall", fn := fun _ => fun
  | [] => { results := [.lit (.bool true)], args := [] }
  | _ => none }
def loadSmallRow : OpenClaim := { program := "ytohnaffmcjbpoaagreat", sum := "f40fd698fa8e381ff8be2435cb4281bf98c99f33afca129c2b682bb7bc62a234", func := "letterbag/letterbaglaw34.LoadSmall", spec := "loadSmall", unfollowed := true, recurses := true, plainKeys := false, apart := false }
def LoadSmallSaid : Prop := loadSmallRow.holds Tryz.pinned (OpenSpec.ofChange loadSmallSpec)

/-- ITS FALSE NEIGHBOUR: 'it returns false'. Refute it at one input. -/
def loadSmallWrong : ChangeSpec := { name := "loadSmall", fn := fun _ => fun
  | [] => { results := [.lit (.bool false)], args := [] }
  | _ => none }
def LoadSmallWrongFalsely : Prop := loadSmallRow.holds Tryz.pinned (OpenSpec.ofChange loadSmallWrong)

/-- 'letterbaglaw34.LoadOne': WHATEVER THE INPUT: true; the input reads as it did. -/
def loadOneSpec : ChangeSpec := { name := "loadOne", fn := fun _ => fun
  | [d1, d2, d3, d4, d5] => { results := [.lit (.bool true)], args := [d1, d2, d3, d4, d5] }
  | _ => none }
def loadOneRow : OpenClaim := { program := "ytohnaffmcjbpoaagreat", sum := "f40fd698fa8e381ff8be2435cb4281bf98c99f33afca129c2b682bb7bc62a234", func := "letterbag/letterbaglaw34.LoadOne", spec := "loadOne", unfollowed := true, recurses := true, plainKeys := false, apart := false }
def LoadOneSaid : Prop := loadOneRow.holds Tryz.pinned (OpenSpec.ofChange loadOneSpec)

/-- ITS FALSE NEIGHBOUR: 'it returns false'. Refute it at one input. -/
def loadOneWrong : ChangeSpec := { name := "loadOne", fn := fun _ => fun
  | [d1, d2, d3, d4, d5] => { results := [.lit (.bool false)], args := [d1, d2, d3, d4, d5] }
  | _ => none }
def LoadOneWrongFalsely : Prop := loadOneRow.holds Tryz.pinned (OpenSpec.ofChange loadOneWrong)

/- THE SECOND FORM. 'bulk': how many values and letters a reading holds, each counted each time it is reached (what is shared counts as often as it is met; a slice's spare places count too). A statement '..UptoSaid' is the law's where the arguments, and the package variables that the reading takes, are together of bulk at most 1048576: NARROWER than '..Said'. Prove '..Said' where nothing that the law and all that it calls make is longer than what came in: it says more and counts as full. Else prove '..UptoSaid'. A law counts once. -/
mutual
def uptoBulk {H : Type} : DataW H → Nat
  | .lit (.string bytes) => bytes.length + 1
  | .lit _ => 1
  | .nil => 1
  | .ptr d => uptoBulk d + 1
  | .slice elems spare => uptoBulkAll elems + uptoBulkAll spare + 1
  | .agg parts => uptoBulkAll parts + 1
  | .iface _ d => uptoBulk d + 1
  | .map entries => uptoBulkEntries entries + 1
  | .held _ => 1
def uptoBulkAll {H : Type} : List (DataW H) → Nat
  | [] => 0
  | d :: r => uptoBulk d + uptoBulkAll r
def uptoBulkEntries {H : Type} : List (Lit × DataW H) → Nat
  | [] => 0
  | x :: r => uptoBulkEntry x + uptoBulkEntries r
def uptoBulkEntry {H : Type} : Lit × DataW H → Nat
  | (.string bytes, d) => bytes.length + uptoBulk d + 1
  | (_, d) => uptoBulk d + 1
 end
def uptoSmall : (H : Type) → List (DataW H) → Bool := fun _ ds => decide (uptoBulkAll ds ≤ 1048576)
def OpenSpec.upto (s : _root_.Go.ChangeSpec) : _root_.Go.OpenSpec := { _root_.Go.OpenSpec.ofChange s with cond := some uptoSmall }

/-- 'letterbaglaw34.LoadTells', WHERE WHAT IT READS IS OF BULK AT MOST 1048576: true; the input reads as it did. -/
def loadTellsUptoRow : OpenClaim := { program := "ytohnaffmcjbpoaagreat", sum := "f40fd698fa8e381ff8be2435cb4281bf98c99f33afca129c2b682bb7bc62a234", func := "letterbag/letterbaglaw34.LoadTells", spec := "loadTells", unfollowed := true, recurses := true, plainKeys := false, apart := false, narrowed := true }
def LoadTellsUptoSaid : Prop := loadTellsUptoRow.holds Tryz.pinned (OpenSpec.upto loadTellsSpec)

/-- 'letterbaglaw34.LoadSmall', WHERE WHAT IT READS IS OF BULK AT MOST 1048576: true; the input reads as it did. -/
def loadSmallUptoRow : OpenClaim := { program := "ytohnaffmcjbpoaagreat", sum := "f40fd698fa8e381ff8be2435cb4281bf98c99f33afca129c2b682bb7bc62a234", func := "letterbag/letterbaglaw34.LoadSmall", spec := "loadSmall", unfollowed := true, recurses := true, plainKeys := false, apart := false, narrowed := true }
def LoadSmallUptoSaid : Prop := loadSmallUptoRow.holds Tryz.pinned (OpenSpec.upto loadSmallSpec)

/-- 'letterbaglaw34.LoadOne', WHERE WHAT IT READS IS OF BULK AT MOST 1048576: true; the input reads as it did. -/
def loadOneUptoRow : OpenClaim := { program := "ytohnaffmcjbpoaagreat", sum := "f40fd698fa8e381ff8be2435cb4281bf98c99f33afca129c2b682bb7bc62a234", func := "letterbag/letterbaglaw34.LoadOne", spec := "loadOne", unfollowed := true, recurses := true, plainKeys := false, apart := false, narrowed := true }
def LoadOneUptoSaid : Prop := loadOneUptoRow.holds Tryz.pinned (OpenSpec.upto loadOneSpec)

end Rows
end Go.Proofs.YtohnaffmcjbpoaaGreat
