/-
  No cell of these rows narrows 'for every input' (looked for: loops, veiled, ifaces, maps, wideKeys, modest, calm, conditions, laid).
  DERIVED. THE GIVEN ROWS OF THIS SEAT. 8 by the template 'for every input the law returns true; each argument reads behind the call as it read before'; 0 by the template 'total and deterministic' (their statements: YtkppjkkkdpcgiaaTotals.lean).
  GIVEN WITH THE SEED: the statements are not yours to turn. If you find one false, say at which input.
  Laid BY PROGRAM, IN A SANDBOX (cutbox-rows.mjs): the forced cells as the released guide's own fill.sh prints them over the translation 0dff5155bbaa9547… (all of the seat's roots in one cut). By AI agents, Wed Nov 11 2026. No macro, syntax, notation, axiom, sorry.
-/
import Derived.Test.YtkppjkkkdpcgiaaChecked
import GoSem.Claim
import GoSem.ClaimJoined
import GoSem.ClaimMapViews
import Derived.JoinedTies
import Derived.KernelRfl
namespace Go.Proofs.Ytkppjkkkdpcgiaa
/- THE CELL 'sum', in the pinned program and in every row, IS THE sha256 OF THE DUMP (.gsa) THAT YtkppjkkkdpcgiaaProg.lean LOADS. Nothing in Lean hashes anything: it is a label: what it is worth is what the hold of that sum in a sandbox is worth. -/
noncomputable def Try.pinned : Pinned := { name := "ytkppjkkkdpcgiaa", sum := "0dff5155bbaa9547dcfd7c3e122158113e5b715044913f553a2d83c983a22098", checked := Try.checked }
namespace Rows
def none {H : Type} : Left H := { results := [], args := [] }

/-- 'letterbaglaw37.ScanTimes': WHATEVER THE INPUT: true; the input reads as it did. -/
def scanTimesSpec : ChangeSpec := { name := "scanTimes", fn := fun _ => fun
  | [d1, d2] => { results := [.lit (.bool true)], args := [d1, d2] }
  | _ => none }
def scanTimesRow : OpenClaim := { program := "ytkppjkkkdpcgiaa", sum := "0dff5155bbaa9547dcfd7c3e122158113e5b715044913f553a2d83c983a22098", func := "letterbag/letterbaglaw37.ScanTimes", spec := "scanTimes", unfollowed := true, recurses := true, plainKeys := false, apart := false }
def ScanTimesSaid : Prop := scanTimesRow.holds Try.pinned (OpenSpec.ofChange scanTimesSpec)

/-- ITS FALSE NEIGHBOUR: 'it returns false'. Refute it at one input. -/
def scanTimesWrong : ChangeSpec := { name := "scanTimes", fn := fun _ => fun
  | [d1, d2] => { results := [.lit (.bool false)], args := [d1, d2] }
  | _ => none }
def ScanTimesWrongFalsely : Prop := scanTimesRow.holds Try.pinned (OpenSpec.ofChange scanTimesWrong)

/-- 'letterbaglaw37.ScanRight': WHATEVER THE INPUT: true; the input reads as it did. -/
def scanRightSpec : ChangeSpec := { name := "scanRight", fn := fun _ => fun
  | [d1, d2] => { results := [.lit (.bool true)], args := [d1, d2] }
  | _ => none }
def scanRightRow : OpenClaim := { program := "ytkppjkkkdpcgiaa", sum := "0dff5155bbaa9547dcfd7c3e122158113e5b715044913f553a2d83c983a22098", func := "letterbag/letterbaglaw37.ScanRight", spec := "scanRight", unfollowed := true, recurses := true, plainKeys := false, apart := false }
def ScanRightSaid : Prop := scanRightRow.holds Try.pinned (OpenSpec.ofChange scanRightSpec)

/-- ITS FALSE NEIGHBOUR: 'it returns false'. Refute it at one input. -/
def scanRightWrong : ChangeSpec := { name := "scanRight", fn := fun _ => fun
  | [d1, d2] => { results := [.lit (.bool false)], args := [d1, d2] }
  | _ => none }
def ScanRightWrongFalsely : Prop := scanRightRow.holds Try.pinned (OpenSpec.ofChange scanRightWrong)

/-- 'letterbaglaw37.ScanSame': WHATEVER THE INPUT: true; the input reads as it did. -/
def scanSameSpec : ChangeSpec := { name := "scanSame", fn := fun _ => fun
  | [d1, d2, d3, d4, d5] => { results := [.lit (.bool true)], args := [d1, d2, d3, d4, d5] }
  | _ => none }
def scanSameRow : OpenClaim := { program := "ytkppjkkkdpcgiaa", sum := "0dff5155bbaa9547dcfd7c3e122158113e5b715044913f553a2d83c983a22098", func := "letterbag/letterbaglaw37.ScanSame", spec := "scanSame", unfollowed := true, recurses := true, plainKeys := false, apart := false }
def ScanSameSaid : Prop := scanSameRow.holds Try.pinned (OpenSpec.ofChange scanSameSpec)

/-- ITS FALSE NEIGHBOUR: 'it returns false'. Refute it at one input. -/
def scanSameWrong : ChangeSpec := { name := "scanSame", fn := fun _ => fun
  | [d1, d2, d3, d4, d5] => { results := [.lit (.bool false)], args := [d1, d2, d3, d4, d5] }
  | _ => none }
def ScanSameWrongFalsely : Prop := scanSameRow.holds Try.pinned (OpenSpec.ofChange scanSameWrong)

/-- 'letterbaglaw37.ScanMarks': WHATEVER THE INPUT: true; the input reads as it did. -/
def scanMarksSpec : ChangeSpec := { name := "scanMarks", fn := fun _ => fun
  | [d1, d2] => { results := [.lit (.bool true)], args := [d1, d2] }
  | _ => none }
def scanMarksRow : OpenClaim := { program := "ytkppjkkkdpcgiaa", sum := "0dff5155bbaa9547dcfd7c3e122158113e5b715044913f553a2d83c983a22098", func := "letterbag/letterbaglaw37.ScanMarks", spec := "scanMarks", unfollowed := true, recurses := true, plainKeys := false, apart := false }
def ScanMarksSaid : Prop := scanMarksRow.holds Try.pinned (OpenSpec.ofChange scanMarksSpec)

/-- ITS FALSE NEIGHBOUR: 'it returns false'. Refute it at one input. -/
def scanMarksWrong : ChangeSpec := { name := "scanMarks", fn := fun _ => fun
  | [d1, d2] => { results := [.lit (.bool false)], args := [d1, d2] }
  | _ => none }
def ScanMarksWrongFalsely : Prop := scanMarksRow.holds Try.pinned (OpenSpec.ofChange scanMarksWrong)

/-- 'letterbaglaw37.ScanDrift': WHATEVER THE INPUT: true; the input reads as it did. -/
def scanDriftSpec : ChangeSpec := { name := "scanDrift", fn := fun _ => fun
  | [d1, d2, d3, d4, d5, d6] => { results := [.lit (.bool true)], args := [d1, d2, d3, d4, d5, d6] }
  | _ => none }
def scanDriftRow : OpenClaim := { program := "ytkppjkkkdpcgiaa", sum := "0dff5155bbaa9547dcfd7c3e122158113e5b715044913f553a2d83c983a22098", func := "letterbag/letterbaglaw37.ScanDrift", spec := "scanDrift", unfollowed := true, recurses := true, plainKeys := false, apart := false }
def ScanDriftSaid : Prop := scanDriftRow.holds Try.pinned (OpenSpec.ofChange scanDriftSpec)

/-- ITS FALSE NEIGHBOUR: 'it returns false'. Refute it at one input. -/
def scanDriftWrong : ChangeSpec := { name := "scanDrift", fn := fun _ => fun
  | [d1, d2, d3, d4, d5, d6] => { results := [.lit (.bool false)], args := [d1, d2, d3, d4, d5, d6] }
  | _ => none }
def ScanDriftWrongFalsely : Prop := scanDriftRow.holds Try.pinned (OpenSpec.ofChange scanDriftWrong)

/-- 'letterbaglaw37.ScanKeeps': WHATEVER THE INPUT: true; the input reads as it did. -/
def scanKeepsSpec : ChangeSpec := { name := "scanKeeps", fn := fun _ => fun
  | [d1, d2] => { results := [.lit (.bool true)], args := [d1, d2] }
  | _ => none }
def scanKeepsRow : OpenClaim := { program := "ytkppjkkkdpcgiaa", sum := "0dff5155bbaa9547dcfd7c3e122158113e5b715044913f553a2d83c983a22098", func := "letterbag/letterbaglaw37.ScanKeeps", spec := "scanKeeps", unfollowed := true, recurses := true, plainKeys := false, apart := false }
def ScanKeepsSaid : Prop := scanKeepsRow.holds Try.pinned (OpenSpec.ofChange scanKeepsSpec)

/-- ITS FALSE NEIGHBOUR: 'it returns false'. Refute it at one input. -/
def scanKeepsWrong : ChangeSpec := { name := "scanKeeps", fn := fun _ => fun
  | [d1, d2] => { results := [.lit (.bool false)], args := [d1, d2] }
  | _ => none }
def ScanKeepsWrongFalsely : Prop := scanKeepsRow.holds Try.pinned (OpenSpec.ofChange scanKeepsWrong)

/-- 'letterbaglaw37.ScanWrong': WHATEVER THE INPUT: true; the input reads as it did. -/
def scanWrongSpec : ChangeSpec := { name := "scanWrong", fn := fun _ => fun
  | [d1, d2, d3, d4] => { results := [.lit (.bool true)], args := [d1, d2, d3, d4] }
  | _ => none }
def scanWrongRow : OpenClaim := { program := "ytkppjkkkdpcgiaa", sum := "0dff5155bbaa9547dcfd7c3e122158113e5b715044913f553a2d83c983a22098", func := "letterbag/letterbaglaw37.ScanWrong", spec := "scanWrong", unfollowed := true, recurses := true, plainKeys := false, apart := false }
def ScanWrongSaid : Prop := scanWrongRow.holds Try.pinned (OpenSpec.ofChange scanWrongSpec)

/-- ITS FALSE NEIGHBOUR: 'it returns false'. Refute it at one input. -/
def scanWrongWrong : ChangeSpec := { name := "scanWrong", fn := fun _ => fun
  | [d1, d2, d3, d4] => { results := [.lit (.bool false)], args := [d1, d2, d3, d4] }
  | _ => none }
def ScanWrongWrongFalsely : Prop := scanWrongRow.holds Try.pinned (OpenSpec.ofChange scanWrongWrong)

/-- 'letterbaglaw37.ScanTells': WHATEVER THE INPUT: true; the input reads as it did. -/
def scanTellsSpec : ChangeSpec := { name := "scanTells", fn := fun _ => fun
  | [d1, d2] => { results := [.lit (.bool true)], args := [d1, d2] }
  | _ => none }
def scanTellsRow : OpenClaim := { program := "ytkppjkkkdpcgiaa", sum := "0dff5155bbaa9547dcfd7c3e122158113e5b715044913f553a2d83c983a22098", func := "letterbag/letterbaglaw37.ScanTells", spec := "scanTells", unfollowed := true, recurses := true, plainKeys := false, apart := false }
def ScanTellsSaid : Prop := scanTellsRow.holds Try.pinned (OpenSpec.ofChange scanTellsSpec)

/-- ITS FALSE NEIGHBOUR: 'it returns false'. Refute it at one input. -/
def scanTellsWrong : ChangeSpec := { name := "scanTells", fn := fun _ => fun
  | [d1, d2] => { results := [.lit (.bool false)], args := [d1, d2] }
  | _ => none }
def ScanTellsWrongFalsely : Prop := scanTellsRow.holds Try.pinned (OpenSpec.ofChange scanTellsWrong)

/- THE SECOND FORM. 'bulk': how many values and letters a reading holds, each counted each time it is reached (what is shared counts as often as it is met; a slice's spare places count too). A statement '..UptoSaid' is the law's where the arguments, and the package variables that the reading takes, are together of bulk at most 1048576: NARROWER than '..Said'. Prove '..Said' where nothing that the law and all that it calls make is longer than what came in: it says more and counts as full. Else prove '..UptoSaid'. A law counts once. -/
mutual
def uptoBulk {H : Type} : DataW H → Nat
  | .lit (.string bytes) => bytes.length + 1
  | .lit _ => 1
  | .nil => 1
  | .ptr d => uptoBulk d + 1
  | .slice elems spare => uptoBulkAll elems + uptoBulkAll spare + 1
  | .agg parts => uptoBulkAll parts + 1
  | .iface _ d => uptoBulk d + 1
  | .map entries => uptoBulkEntries entries + 1
  | .held _ => 1
def uptoBulkAll {H : Type} : List (DataW H) → Nat
  | [] => 0
  | d :: r => uptoBulk d + uptoBulkAll r
def uptoBulkEntries {H : Type} : List (Lit × DataW H) → Nat
  | [] => 0
  | x :: r => uptoBulkEntry x + uptoBulkEntries r
def uptoBulkEntry {H : Type} : Lit × DataW H → Nat
  | (.string bytes, d) => bytes.length + uptoBulk d + 1
  | (_, d) => uptoBulk d + 1
 end
def uptoSmall : (H : Type) → List (DataW H) → Bool := fun _ ds => decide (uptoBulkAll ds ≤ 1048576)
def OpenSpec.upto (s : _root_.Go.ChangeSpec) : _root_.Go.OpenSpec := { _root_.Go.OpenSpec.ofChange s with cond := some uptoSmall }

/-- 'letterbaglaw37.ScanTimes', WHERE WHAT IT READS IS OF BULK AT MOST 1048576: true; the input reads as it did. -/
def scanTimesUptoRow : OpenClaim := { program := "ytkppjkkkdpcgiaa", sum := "0dff5155bbaa9547dcfd7c3e122158113e5b715044913f553a2d83c983a22098", func := "letterbag/letterbaglaw37.ScanTimes", spec := "scanTimes", unfollowed := true, recurses := true, plainKeys := false, apart := false, narrowed := true }
def ScanTimesUptoSaid : Prop := scanTimesUptoRow.holds Try.pinned (OpenSpec.upto scanTimesSpec)

/-- 'letterbaglaw37.ScanRight', WHERE WHAT IT READS IS OF BULK AT MOST 1048576: true; the input reads as it did. -/
def scanRightUptoRow : OpenClaim := { program := "ytkppjkkkdpcgiaa", sum := "0dff5155bbaa9547dcfd7c3e122158113e5b715044913f553a2d83c983a22098", func := "letterbag/letterbaglaw37.ScanRight", spec := "scanRight", unfollowed := true, recurses := true, plainKeys := false, apart := false, narrowed := true }
def ScanRightUptoSaid : Prop := scanRightUptoRow.holds Try.pinned (OpenSpec.upto scanRightSpec)

/-- 'letterbaglaw37.ScanSame', WHERE WHAT IT READS IS OF BULK AT MOST 1048576: true; the input reads as it did. -/
def scanSameUptoRow : OpenClaim := { program := "ytkppjkkkdpcgiaa", sum := "0dff5155bbaa9547dcfd7c3e122158113e5b715044913f553a2d83c983a22098", func := "letterbag/letterbaglaw37.ScanSame", spec := "scanSame", unfollowed := true, recurses := true, plainKeys := false, apart := false, narrowed := true }
def ScanSameUptoSaid : Prop := scanSameUptoRow.holds Try.pinned (OpenSpec.upto scanSameSpec)

/-- 'letterbaglaw37.ScanMarks', WHERE WHAT IT READS IS OF BULK AT MOST 1048576: true; the input reads as it did. -/
def scanMarksUptoRow : OpenClaim := { program := "ytkppjkkkdpcgiaa", sum := "0dff5155bbaa9547dcfd7c3e122158113e5b715044913f553a2d83c983a22098", func := "letterbag/letterbaglaw37.ScanMarks", spec := "scanMarks", unfollowed := true, recurses := true, plainKeys := false, apart := false, narrowed := true }
def ScanMarksUptoSaid : Prop := scanMarksUptoRow.holds Try.pinned (OpenSpec.upto scanMarksSpec)

/-- 'letterbaglaw37.ScanDrift', WHERE WHAT IT READS IS OF BULK AT MOST 1048576: true; the input reads as it did. -/
def scanDriftUptoRow : OpenClaim := { program := "ytkppjkkkdpcgiaa", sum := "0dff5155bbaa9547dcfd7c3e122158113e5b715044913f553a2d83c983a22098", func := "letterbag/letterbaglaw37.ScanDrift", spec := "scanDrift", unfollowed := true, recurses := true, plainKeys := false, apart := false, narrowed := true }
def ScanDriftUptoSaid : Prop := scanDriftUptoRow.holds Try.pinned (OpenSpec.upto scanDriftSpec)

/-- 'letterbaglaw37.ScanKeeps', WHERE WHAT IT READS IS OF BULK AT MOST 1048576: true; the input reads as it did. -/
def scanKeepsUptoRow : OpenClaim := { program := "ytkppjkkkdpcgiaa", sum := "0dff5155bbaa9547dcfd7c3e122158113e5b715044913f553a2d83c983a22098", func := "letterbag/letterbaglaw37.ScanKeeps", spec := "scanKeeps", unfollowed := true, recurses := true, plainKeys := false, apart := false, narrowed := true }
def ScanKeepsUptoSaid : Prop := scanKeepsUptoRow.holds Try.pinned (OpenSpec.upto scanKeepsSpec)

/-- 'letterbaglaw37.ScanWrong', WHERE WHAT IT READS IS OF BULK AT MOST 1048576: true; the input reads as it did. -/
def scanWrongUptoRow : OpenClaim := { program := "ytkppjkkkdpcgiaa", sum := "0dff5155bbaa9547dcfd7c3e122158113e5b715044913f553a2d83c983a22098", func := "letterbag/letterbaglaw37.ScanWrong", spec := "scanWrong", unfollowed := true, recurses := true, plainKeys := false, apart := false, narrowed := true }
def ScanWrongUptoSaid : Prop := scanWrongUptoRow.holds Try.pinned (OpenSpec.upto scanWrongSpec)

/-- 'letterbaglaw37.ScanTells', WHERE WHAT IT READS IS OF BULK AT MOST 1048576: true; the input reads as it did. -/
def scanTellsUptoRow : OpenClaim := { program := "ytkppjkkkdpcgiaa", sum := "0dff5155bbaa9547dcfd7c3e122158113e5b715044913f553a2d83c983a22098", func := "letterbag/letterbaglaw37.ScanTells", spec := "scanTells", unfollowed := true, recurses := true, plainKeys := false, apart := false, narrowed := true }
def ScanTellsUptoSaid : Prop := scanTellsUptoRow.holds Try.pinned (OpenSpec.upto scanTellsSpec)

end Rows
end Go.Proofs.Ytkppjkkkdpcgiaa
