/-
  No cell of these rows narrows 'for every input' (looked for: loops, veiled, ifaces, maps, wideKeys, modest, calm, conditions, laid).
  DERIVED. THE GIVEN ROWS OF THIS SEAT. 7 by the template 'for every input the law returns true; each argument reads behind the call as it read before'; 0 by the template 'total and deterministic' (their statements: YtkppjkkkdpcgiaaGreatTotals.lean).
  GIVEN WITH THE SEED: the statements are not yours to turn. If you find one false, say at which input.
  Laid BY PROGRAM, IN A SANDBOX (cutbox-rows.mjs): the forced cells as the released guide's own fill.sh prints them over the translation 426b2c85cc46946a… (all of the seat's roots in one cut). By AI agents, Wed Nov 11 2026. No macro, syntax, notation, axiom, sorry.
-/
import Derived.Test.YtkppjkkkdpcgiaaGreatChecked
import GoSem.Claim
import GoSem.ClaimJoined
import GoSem.ClaimMapViews
import Derived.JoinedTies
import Derived.KernelRfl
namespace Go.Proofs.YtkppjkkkdpcgiaaGreat
/- THE CELL 'sum', in the pinned program and in every row, IS THE sha256 OF THE DUMP (.gsa) THAT YtkppjkkkdpcgiaaGreatProg.lean LOADS. Nothing in Lean hashes anything: it is a label: what it is worth is what the hold of that sum in a sandbox is worth. -/
noncomputable def Tryz.pinned : Pinned := { name := "ytkppjkkkdpcgiaagreat", sum := "426b2c85cc46946ab321a165a348755bc60e53a430c9faf713b25d3f18cd4c82", checked := Tryz.checked }
namespace Rows
def none {H : Type} : Left H := { results := [], args := [] }

/-- 'letterbagtop.TopTraced': WHATEVER THE INPUT: true; the input reads as it did. -/
def topTracedSpec : ChangeSpec := { name := "topTraced", fn := fun _ => fun
  | [d1, d2] => { results := [.lit (.bool true)], args := [d1, d2] }
  | _ => none }
def topTracedRow : OpenClaim := { program := "ytkppjkkkdpcgiaagreat", sum := "426b2c85cc46946ab321a165a348755bc60e53a430c9faf713b25d3f18cd4c82", func := "letterbag/letterbagtop.TopTraced", spec := "topTraced", unfollowed := true, recurses := true, plainKeys := false, apart := false }
def TopTracedSaid : Prop := topTracedRow.holds Tryz.pinned (OpenSpec.ofChange topTracedSpec)

/-- ITS FALSE NEIGHBOUR: 'it returns false'. Refute it at one input. -/
def topTracedWrong : ChangeSpec := { name := "topTraced", fn := fun _ => fun
  | [d1, d2] => { results := [.lit (.bool false)], args := [d1, d2] }
  | _ => none }
def TopTracedWrongFalsely : Prop := topTracedRow.holds Tryz.pinned (OpenSpec.ofChange topTracedWrong)

/-- 'letterbaglaw39.AnomalyTells': WHATEVER THE INPUT: true; the input reads as it did. -/
def anomalyTellsSpec : ChangeSpec := { name := "anomalyTells", fn := fun _ => fun
  | [d1, d2, d3, d4, d5] => { results := [.lit (.bool true)], args := [d1, d2, d3, d4, d5] }
  | _ => none }
def anomalyTellsRow : OpenClaim := { program := "ytkppjkkkdpcgiaagreat", sum := "426b2c85cc46946ab321a165a348755bc60e53a430c9faf713b25d3f18cd4c82", func := "letterbag/letterbaglaw39.AnomalyTells", spec := "anomalyTells", unfollowed := true, recurses := true, plainKeys := false, apart := false }
def AnomalyTellsSaid : Prop := anomalyTellsRow.holds Tryz.pinned (OpenSpec.ofChange anomalyTellsSpec)

/-- ITS FALSE NEIGHBOUR: 'it returns false'. Refute it at one input. -/
def anomalyTellsWrong : ChangeSpec := { name := "anomalyTells", fn := fun _ => fun
  | [d1, d2, d3, d4, d5] => { results := [.lit (.bool false)], args := [d1, d2, d3, d4, d5] }
  | _ => none }
def AnomalyTellsWrongFalsely : Prop := anomalyTellsRow.holds Tryz.pinned (OpenSpec.ofChange anomalyTellsWrong)

/-- 'letterbaglaw39.AnomalyPrices': WHATEVER THE INPUT: true; the input reads as it did. -/
def anomalyPricesSpec : ChangeSpec := { name := "anomalyPrices", fn := fun _ => fun
  | [d1, d2, d3, d4, d5] => { results := [.lit (.bool true)], args := [d1, d2, d3, d4, d5] }
  | _ => none }
def anomalyPricesRow : OpenClaim := { program := "ytkppjkkkdpcgiaagreat", sum := "426b2c85cc46946ab321a165a348755bc60e53a430c9faf713b25d3f18cd4c82", func := "letterbag/letterbaglaw39.AnomalyPrices", spec := "anomalyPrices", unfollowed := true, recurses := true, plainKeys := false, apart := false }
def AnomalyPricesSaid : Prop := anomalyPricesRow.holds Tryz.pinned (OpenSpec.ofChange anomalyPricesSpec)

/-- ITS FALSE NEIGHBOUR: 'it returns false'. Refute it at one input. -/
def anomalyPricesWrong : ChangeSpec := { name := "anomalyPrices", fn := fun _ => fun
  | [d1, d2, d3, d4, d5] => { results := [.lit (.bool false)], args := [d1, d2, d3, d4, d5] }
  | _ => none }
def AnomalyPricesWrongFalsely : Prop := anomalyPricesRow.holds Tryz.pinned (OpenSpec.ofChange anomalyPricesWrong)

/-- 'letterbaglaw39.AnomalyDoubled': WHATEVER THE INPUT: true; the input reads as it did. -/
def anomalyDoubledSpec : ChangeSpec := { name := "anomalyDoubled", fn := fun _ => fun
  | [d1, d2, d3, d4, d5] => { results := [.lit (.bool true)], args := [d1, d2, d3, d4, d5] }
  | _ => none }
def anomalyDoubledRow : OpenClaim := { program := "ytkppjkkkdpcgiaagreat", sum := "426b2c85cc46946ab321a165a348755bc60e53a430c9faf713b25d3f18cd4c82", func := "letterbag/letterbaglaw39.AnomalyDoubled", spec := "anomalyDoubled", unfollowed := true, recurses := true, plainKeys := false, apart := false }
def AnomalyDoubledSaid : Prop := anomalyDoubledRow.holds Tryz.pinned (OpenSpec.ofChange anomalyDoubledSpec)

/-- ITS FALSE NEIGHBOUR: 'it returns false'. Refute it at one input. -/
def anomalyDoubledWrong : ChangeSpec := { name := "anomalyDoubled", fn := fun _ => fun
  | [d1, d2, d3, d4, d5] => { results := [.lit (.bool false)], args := [d1, d2, d3, d4, d5] }
  | _ => none }
def AnomalyDoubledWrongFalsely : Prop := anomalyDoubledRow.holds Tryz.pinned (OpenSpec.ofChange anomalyDoubledWrong)

/-- 'letterbaglaw39.AnomalySame': WHATEVER THE INPUT: true; the input reads as it did. -/
def anomalySameSpec : ChangeSpec := { name := "anomalySame", fn := fun _ => fun
  | [d1, d2, d3, d4, d5, d6] => { results := [.lit (.bool true)], args := [d1, d2, d3, d4, d5, d6] }
  | _ => none }
def anomalySameRow : OpenClaim := { program := "ytkppjkkkdpcgiaagreat", sum := "426b2c85cc46946ab321a165a348755bc60e53a430c9faf713b25d3f18cd4c82", func := "letterbag/letterbaglaw39.AnomalySame", spec := "anomalySame", unfollowed := true, recurses := true, plainKeys := false, apart := false }
def AnomalySameSaid : Prop := anomalySameRow.holds Tryz.pinned (OpenSpec.ofChange anomalySameSpec)

/-- ITS FALSE NEIGHBOUR: 'it returns false'. Refute it at one input. -/
def anomalySameWrong : ChangeSpec := { name := "anomalySame", fn := fun _ => fun
  | [d1, d2, d3, d4, d5, d6] => { results := [.lit (.bool false)], args := [d1, d2, d3, d4, d5, d6] }
  | _ => none }
def AnomalySameWrongFalsely : Prop := anomalySameRow.holds Tryz.pinned (OpenSpec.ofChange anomalySameWrong)

/-- 'letterbaglaw39.AnomalyClean': WHATEVER THE INPUT: true; the input reads as it did. -/
def anomalyCleanSpec : ChangeSpec := { name := "anomalyClean", fn := fun _ => fun
  | [d1, d2, d3] => { results := [.lit (.bool true)], args := [d1, d2, d3] }
  | _ => none }
def anomalyCleanRow : OpenClaim := { program := "ytkppjkkkdpcgiaagreat", sum := "426b2c85cc46946ab321a165a348755bc60e53a430c9faf713b25d3f18cd4c82", func := "letterbag/letterbaglaw39.AnomalyClean", spec := "anomalyClean", unfollowed := true, recurses := true, plainKeys := false, apart := false }
def AnomalyCleanSaid : Prop := anomalyCleanRow.holds Tryz.pinned (OpenSpec.ofChange anomalyCleanSpec)

/-- ITS FALSE NEIGHBOUR: 'it returns false'. Refute it at one input. -/
def anomalyCleanWrong : ChangeSpec := { name := "anomalyClean", fn := fun _ => fun
  | [d1, d2, d3] => { results := [.lit (.bool false)], args := [d1, d2, d3] }
  | _ => none }
def AnomalyCleanWrongFalsely : Prop := anomalyCleanRow.holds Tryz.pinned (OpenSpec.ofChange anomalyCleanWrong)

/-- 'letterbaglaw39.AnomalyWrong': WHATEVER THE INPUT: true; the input reads as it did. -/
def anomalyWrongSpec : ChangeSpec := { name := "anomalyWrong", fn := fun _ => fun
  | [d1, d2, d3] => { results := [.lit (.bool true)], args := [d1, d2, d3] }
  | _ => none }
def anomalyWrongRow : OpenClaim := { program := "ytkppjkkkdpcgiaagreat", sum := "426b2c85cc46946ab321a165a348755bc60e53a430c9faf713b25d3f18cd4c82", func := "letterbag/letterbaglaw39.AnomalyWrong", spec := "anomalyWrong", unfollowed := true, recurses := true, plainKeys := false, apart := false }
def AnomalyWrongSaid : Prop := anomalyWrongRow.holds Tryz.pinned (OpenSpec.ofChange anomalyWrongSpec)

/-- ITS FALSE NEIGHBOUR: 'it returns false'. Refute it at one input. -/
def anomalyWrongWrong : ChangeSpec := { name := "anomalyWrong", fn := fun _ => fun
  | [d1, d2, d3] => { results := [.lit (.bool false)], args := [d1, d2, d3] }
  | _ => none }
def AnomalyWrongWrongFalsely : Prop := anomalyWrongRow.holds Tryz.pinned (OpenSpec.ofChange anomalyWrongWrong)

/- THE SECOND FORM. 'bulk': how many values and letters a reading holds, each counted each time it is reached (what is shared counts as often as it is met; a slice's spare places count too). A statement '..UptoSaid' is the law's where the arguments, and the package variables that the reading takes, are together of bulk at most 1048576: NARROWER than '..Said'. Prove '..Said' where nothing that the law and all that it calls make is longer than what came in: it says more and counts as full. Else prove '..UptoSaid'. A law counts once. -/
mutual
def uptoBulk {H : Type} : DataW H → Nat
  | .lit (.string bytes) => bytes.length + 1
  | .lit _ => 1
  | .nil => 1
  | .ptr d => uptoBulk d + 1
  | .slice elems spare => uptoBulkAll elems + uptoBulkAll spare + 1
  | .agg parts => uptoBulkAll parts + 1
  | .iface _ d => uptoBulk d + 1
  | .map entries => uptoBulkEntries entries + 1
  | .held _ => 1
def uptoBulkAll {H : Type} : List (DataW H) → Nat
  | [] => 0
  | d :: r => uptoBulk d + uptoBulkAll r
def uptoBulkEntries {H : Type} : List (Lit × DataW H) → Nat
  | [] => 0
  | x :: r => uptoBulkEntry x + uptoBulkEntries r
def uptoBulkEntry {H : Type} : Lit × DataW H → Nat
  | (.string bytes, d) => bytes.length + uptoBulk d + 1
  | (_, d) => uptoBulk d + 1
 end
def uptoSmall : (H : Type) → List (DataW H) → Bool := fun _ ds => decide (uptoBulkAll ds ≤ 1048576)
def OpenSpec.upto (s : _root_.Go.ChangeSpec) : _root_.Go.OpenSpec := { _root_.Go.OpenSpec.ofChange s with cond := some uptoSmall }

/-- 'letterbagtop.TopTraced', WHERE WHAT IT READS IS OF BULK AT MOST 1048576: true; the input reads as it did. -/
def topTracedUptoRow : OpenClaim := { program := "ytkppjkkkdpcgiaagreat", sum := "426b2c85cc46946ab321a165a348755bc60e53a430c9faf713b25d3f18cd4c82", func := "letterbag/letterbagtop.TopTraced", spec := "topTraced", unfollowed := true, recurses := true, plainKeys := false, apart := false, narrowed := true }
def TopTracedUptoSaid : Prop := topTracedUptoRow.holds Tryz.pinned (OpenSpec.upto topTracedSpec)

/-- 'letterbaglaw39.AnomalyTells', WHERE WHAT IT READS IS OF BULK AT MOST 1048576: true; the input reads as it did. -/
def anomalyTellsUptoRow : OpenClaim := { program := "ytkppjkkkdpcgiaagreat", sum := "426b2c85cc46946ab321a165a348755bc60e53a430c9faf713b25d3f18cd4c82", func := "letterbag/letterbaglaw39.AnomalyTells", spec := "anomalyTells", unfollowed := true, recurses := true, plainKeys := false, apart := false, narrowed := true }
def AnomalyTellsUptoSaid : Prop := anomalyTellsUptoRow.holds Tryz.pinned (OpenSpec.upto anomalyTellsSpec)

/-- 'letterbaglaw39.AnomalyPrices', WHERE WHAT IT READS IS OF BULK AT MOST 1048576: true; the input reads as it did. -/
def anomalyPricesUptoRow : OpenClaim := { program := "ytkppjkkkdpcgiaagreat", sum := "426b2c85cc46946ab321a165a348755bc60e53a430c9faf713b25d3f18cd4c82", func := "letterbag/letterbaglaw39.AnomalyPrices", spec := "anomalyPrices", unfollowed := true, recurses := true, plainKeys := false, apart := false, narrowed := true }
def AnomalyPricesUptoSaid : Prop := anomalyPricesUptoRow.holds Tryz.pinned (OpenSpec.upto anomalyPricesSpec)

/-- 'letterbaglaw39.AnomalyDoubled', WHERE WHAT IT READS IS OF BULK AT MOST 1048576: true; the input reads as it did. -/
def anomalyDoubledUptoRow : OpenClaim := { program := "ytkppjkkkdpcgiaagreat", sum := "426b2c85cc46946ab321a165a348755bc60e53a430c9faf713b25d3f18cd4c82", func := "letterbag/letterbaglaw39.AnomalyDoubled", spec := "anomalyDoubled", unfollowed := true, recurses := true, plainKeys := false, apart := false, narrowed := true }
def AnomalyDoubledUptoSaid : Prop := anomalyDoubledUptoRow.holds Tryz.pinned (OpenSpec.upto anomalyDoubledSpec)

/-- 'letterbaglaw39.AnomalySame', WHERE WHAT IT READS IS OF BULK AT MOST 1048576: true; the input reads as it did. -/
def anomalySameUptoRow : OpenClaim := { program := "ytkppjkkkdpcgiaagreat", sum := "426b2c85cc46946ab321a165a348755bc60e53a430c9faf713b25d3f18cd4c82", func := "letterbag/letterbaglaw39.AnomalySame", spec := "anomalySame", unfollowed := true, recurses := true, plainKeys := false, apart := false, narrowed := true }
def AnomalySameUptoSaid : Prop := anomalySameUptoRow.holds Tryz.pinned (OpenSpec.upto anomalySameSpec)

/-- 'letterbaglaw39.AnomalyClean', WHERE WHAT IT READS IS OF BULK AT MOST 1048576: true; the input reads as it did. -/
def anomalyCleanUptoRow : OpenClaim := { program := "ytkppjkkkdpcgiaagreat", sum := "426b2c85cc46946ab321a165a348755bc60e53a430c9faf713b25d3f18cd4c82", func := "letterbag/letterbaglaw39.AnomalyClean", spec := "anomalyClean", unfollowed := true, recurses := true, plainKeys := false, apart := false, narrowed := true }
def AnomalyCleanUptoSaid : Prop := anomalyCleanUptoRow.holds Tryz.pinned (OpenSpec.upto anomalyCleanSpec)

/-- 'letterbaglaw39.AnomalyWrong', WHERE WHAT IT READS IS OF BULK AT MOST 1048576: true; the input reads as it did. -/
def anomalyWrongUptoRow : OpenClaim := { program := "ytkppjkkkdpcgiaagreat", sum := "426b2c85cc46946ab321a165a348755bc60e53a430c9faf713b25d3f18cd4c82", func := "letterbag/letterbaglaw39.AnomalyWrong", spec := "anomalyWrong", unfollowed := true, recurses := true, plainKeys := false, apart := false, narrowed := true }
def AnomalyWrongUptoSaid : Prop := anomalyWrongUptoRow.holds Tryz.pinned (OpenSpec.upto anomalyWrongSpec)

end Rows
end Go.Proofs.YtkppjkkkdpcgiaaGreat
