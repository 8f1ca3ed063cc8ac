/-
  No cell of these rows narrows 'for every input' (looked for: loops, veiled, ifaces, maps, wideKeys, modest, calm, conditions, laid).
  DERIVED. THE GIVEN ROWS OF THIS SEAT. 7 by the template 'for every input the law returns true; each argument reads behind the call as it read before'; 0 by the template 'total and deterministic' (their statements: YtlmoijifgbkapaaTotals.lean).
  GIVEN WITH THE SEED: the statements are not yours to turn. If you find one false, say at which input.
  Laid BY PROGRAM, IN A SANDBOX (cutbox-rows.mjs): the forced cells as the released guide's own fill.sh prints them over the translation ba2693969fc2f7e3… (all of the seat's roots in one cut). By AI agents, Wed Nov 11 2026. No macro, syntax, notation, axiom, sorry.
-/
import Derived.Test.YtlmoijifgbkapaaChecked
import GoSem.Claim
import GoSem.ClaimJoined
import GoSem.ClaimMapViews
import Derived.JoinedTies
import Derived.KernelRfl
namespace Go.Proofs.Ytlmoijifgbkapaa
/- THE CELL 'sum', in the pinned program and in every row, IS THE sha256 OF THE DUMP (.gsa) THAT YtlmoijifgbkapaaProg.lean LOADS. Nothing in Lean hashes anything: it is a label: what it is worth is what the hold of that sum in a sandbox is worth. -/
noncomputable def Try.pinned : Pinned := { name := "ytlmoijifgbkapaa", sum := "ba2693969fc2f7e3b3afcde50708c5e46576eddb2ffc8e7255aa6d08157c476c", checked := Try.checked }
namespace Rows
def none {H : Type} : Left H := { results := [], args := [] }

/-- 'letterbaglaw40.ClaimPromise': WHATEVER THE INPUT: true; the input reads as it did. -/
def claimPromiseSpec : ChangeSpec := { name := "claimPromise", fn := fun _ => fun
  | [d1, d2, d3, d4, d5] => { results := [.lit (.bool true)], args := [d1, d2, d3, d4, d5] }
  | _ => none }
def claimPromiseRow : OpenClaim := { program := "ytlmoijifgbkapaa", sum := "ba2693969fc2f7e3b3afcde50708c5e46576eddb2ffc8e7255aa6d08157c476c", func := "letterbag/letterbaglaw40.ClaimPromise", spec := "claimPromise", unfollowed := true, recurses := true, apart := false }
def ClaimPromiseSaid : Prop := claimPromiseRow.holds Try.pinned (OpenSpec.ofChange claimPromiseSpec)

/-- ITS FALSE NEIGHBOUR: 'it returns false'. Refute it at one input. -/
def claimPromiseWrong : ChangeSpec := { name := "claimPromise", fn := fun _ => fun
  | [d1, d2, d3, d4, d5] => { results := [.lit (.bool false)], args := [d1, d2, d3, d4, d5] }
  | _ => none }
def ClaimPromiseWrongFalsely : Prop := claimPromiseRow.holds Try.pinned (OpenSpec.ofChange claimPromiseWrong)

/-- 'letterbaglaw40.ClaimLater': WHATEVER THE INPUT: true; the input reads as it did. -/
def claimLaterSpec : ChangeSpec := { name := "claimLater", fn := fun _ => fun
  | [d1, d2, d3, d4, d5] => { results := [.lit (.bool true)], args := [d1, d2, d3, d4, d5] }
  | _ => none }
def claimLaterRow : OpenClaim := { program := "ytlmoijifgbkapaa", sum := "ba2693969fc2f7e3b3afcde50708c5e46576eddb2ffc8e7255aa6d08157c476c", func := "letterbag/letterbaglaw40.ClaimLater", spec := "claimLater", unfollowed := true, recurses := true, apart := false }
def ClaimLaterSaid : Prop := claimLaterRow.holds Try.pinned (OpenSpec.ofChange claimLaterSpec)

/-- ITS FALSE NEIGHBOUR: 'it returns false'. Refute it at one input. -/
def claimLaterWrong : ChangeSpec := { name := "claimLater", fn := fun _ => fun
  | [d1, d2, d3, d4, d5] => { results := [.lit (.bool false)], args := [d1, d2, d3, d4, d5] }
  | _ => none }
def ClaimLaterWrongFalsely : Prop := claimLaterRow.holds Try.pinned (OpenSpec.ofChange claimLaterWrong)

/-- 'letterbaglaw40.ClaimDays': WHATEVER THE INPUT: true; the input reads as it did. -/
def claimDaysSpec : ChangeSpec := { name := "claimDays", fn := fun _ => fun
  | [d1, d2, d3, d4] => { results := [.lit (.bool true)], args := [d1, d2, d3, d4] }
  | _ => none }
def claimDaysRow : OpenClaim := { program := "ytlmoijifgbkapaa", sum := "ba2693969fc2f7e3b3afcde50708c5e46576eddb2ffc8e7255aa6d08157c476c", func := "letterbag/letterbaglaw40.ClaimDays", spec := "claimDays", unfollowed := true, recurses := true, apart := false }
def ClaimDaysSaid : Prop := claimDaysRow.holds Try.pinned (OpenSpec.ofChange claimDaysSpec)

/-- ITS FALSE NEIGHBOUR: 'it returns false'. Refute it at one input. -/
def claimDaysWrong : ChangeSpec := { name := "claimDays", fn := fun _ => fun
  | [d1, d2, d3, d4] => { results := [.lit (.bool false)], args := [d1, d2, d3, d4] }
  | _ => none }
def ClaimDaysWrongFalsely : Prop := claimDaysRow.holds Try.pinned (OpenSpec.ofChange claimDaysWrong)

/-- 'letterbaglaw40.ClaimTells': WHATEVER THE INPUT: true; the input reads as it did. -/
def claimTellsSpec : ChangeSpec := { name := "claimTells", fn := fun _ => fun
  | [d1, d2, d3, d4] => { results := [.lit (.bool true)], args := [d1, d2, d3, d4] }
  | _ => none }
def claimTellsRow : OpenClaim := { program := "ytlmoijifgbkapaa", sum := "ba2693969fc2f7e3b3afcde50708c5e46576eddb2ffc8e7255aa6d08157c476c", func := "letterbag/letterbaglaw40.ClaimTells", spec := "claimTells", unfollowed := true, recurses := true, apart := false }
def ClaimTellsSaid : Prop := claimTellsRow.holds Try.pinned (OpenSpec.ofChange claimTellsSpec)

/-- ITS FALSE NEIGHBOUR: 'it returns false'. Refute it at one input. -/
def claimTellsWrong : ChangeSpec := { name := "claimTells", fn := fun _ => fun
  | [d1, d2, d3, d4] => { results := [.lit (.bool false)], args := [d1, d2, d3, d4] }
  | _ => none }
def ClaimTellsWrongFalsely : Prop := claimTellsRow.holds Try.pinned (OpenSpec.ofChange claimTellsWrong)

/-- 'letterbaglaw40.ClaimSmall': WHATEVER THE INPUT: true; the input reads as it did. -/
def claimSmallSpec : ChangeSpec := { name := "claimSmall", fn := fun _ => fun
  | [] => { results := [.lit (.bool true)], args := [] }
  | _ => none }
def claimSmallRow : OpenClaim := { program := "ytlmoijifgbkapaa", sum := "ba2693969fc2f7e3b3afcde50708c5e46576eddb2ffc8e7255aa6d08157c476c", func := "letterbag/letterbaglaw40.ClaimSmall", spec := "claimSmall", unfollowed := true, recurses := true, apart := false }
def ClaimSmallSaid : Prop := claimSmallRow.holds Try.pinned (OpenSpec.ofChange claimSmallSpec)

/-- ITS FALSE NEIGHBOUR: 'it returns false'. Refute it at one input. -/
def claimSmallWrong : ChangeSpec := { name := "claimSmall", fn := fun _ => fun
  | [] => { results := [.lit (.bool false)], args := [] }
  | _ => none }
def ClaimSmallWrongFalsely : Prop := claimSmallRow.holds Try.pinned (OpenSpec.ofChange claimSmallWrong)

/-- 'letterbaglaw40.ClaimOnce': WHATEVER THE INPUT: true; the input reads as it did. -/
def claimOnceSpec : ChangeSpec := { name := "claimOnce", fn := fun _ => fun
  | [d1, d2, d3, d4] => { results := [.lit (.bool true)], args := [d1, d2, d3, d4] }
  | _ => none }
def claimOnceRow : OpenClaim := { program := "ytlmoijifgbkapaa", sum := "ba2693969fc2f7e3b3afcde50708c5e46576eddb2ffc8e7255aa6d08157c476c", func := "letterbag/letterbaglaw40.ClaimOnce", spec := "claimOnce", unfollowed := true, recurses := true, apart := false }
def ClaimOnceSaid : Prop := claimOnceRow.holds Try.pinned (OpenSpec.ofChange claimOnceSpec)

/-- ITS FALSE NEIGHBOUR: 'it returns false'. Refute it at one input. -/
def claimOnceWrong : ChangeSpec := { name := "claimOnce", fn := fun _ => fun
  | [d1, d2, d3, d4] => { results := [.lit (.bool false)], args := [d1, d2, d3, d4] }
  | _ => none }
def ClaimOnceWrongFalsely : Prop := claimOnceRow.holds Try.pinned (OpenSpec.ofChange claimOnceWrong)

/-- 'letterbaglaw40.ClaimTurned': WHATEVER THE INPUT: true; the input reads as it did. -/
def claimTurnedSpec : ChangeSpec := { name := "claimTurned", fn := fun _ => fun
  | [d1, d2, d3, d4] => { results := [.lit (.bool true)], args := [d1, d2, d3, d4] }
  | _ => none }
def claimTurnedRow : OpenClaim := { program := "ytlmoijifgbkapaa", sum := "ba2693969fc2f7e3b3afcde50708c5e46576eddb2ffc8e7255aa6d08157c476c", func := "letterbag/letterbaglaw40.ClaimTurned", spec := "claimTurned", unfollowed := true, recurses := true, apart := false }
def ClaimTurnedSaid : Prop := claimTurnedRow.holds Try.pinned (OpenSpec.ofChange claimTurnedSpec)

/-- ITS FALSE NEIGHBOUR: 'it returns false'. Refute it at one input. -/
def claimTurnedWrong : ChangeSpec := { name := "claimTurned", fn := fun _ => fun
  | [d1, d2, d3, d4] => { results := [.lit (.bool false)], args := [d1, d2, d3, d4] }
  | _ => none }
def ClaimTurnedWrongFalsely : Prop := claimTurnedRow.holds Try.pinned (OpenSpec.ofChange claimTurnedWrong)

/- THE SECOND FORM. 'bulk': how many values and letters a reading holds, each counted each time it is reached (what is shared counts as often as it is met; a slice's spare places count too). A statement '..UptoSaid' is the law's where the arguments, and the package variables that the reading takes, are together of bulk at most 1048576: NARROWER than '..Said'. Prove '..Said' where nothing that the law and all that it calls make is longer than what came in: it says more and counts as full. Else prove '..UptoSaid'. A law counts once. -/
mutual
def uptoBulk {H : Type} : DataW H → Nat
  | .lit (.string bytes) => bytes.length + 1
  | .lit _ => 1
  | .nil => 1
  | .ptr d => uptoBulk d + 1
  | .slice elems spare => uptoBulkAll elems + uptoBulkAll spare + 1
  | .agg parts => uptoBulkAll parts + 1
  | .iface _ d => uptoBulk d + 1
  | .map entries => uptoBulkEntries entries + 1
  | .held _ => 1
def uptoBulkAll {H : Type} : List (DataW H) → Nat
  | [] => 0
  | d :: r => uptoBulk d + uptoBulkAll r
def uptoBulkEntries {H : Type} : List (Lit × DataW H) → Nat
  | [] => 0
  | x :: r => uptoBulkEntry x + uptoBulkEntries r
def uptoBulkEntry {H : Type} : Lit × DataW H → Nat
  | (.string bytes, d) => bytes.length + uptoBulk d + 1
  | (_, d) => uptoBulk d + 1
 end
def uptoSmall : (H : Type) → List (DataW H) → Bool := fun _ ds => decide (uptoBulkAll ds ≤ 1048576)
def OpenSpec.upto (s : _root_.Go.ChangeSpec) : _root_.Go.OpenSpec := { _root_.Go.OpenSpec.ofChange s with cond := some uptoSmall }

/-- 'letterbaglaw40.ClaimPromise', WHERE WHAT IT READS IS OF BULK AT MOST 1048576: true; the input reads as it did. -/
def claimPromiseUptoRow : OpenClaim := { program := "ytlmoijifgbkapaa", sum := "ba2693969fc2f7e3b3afcde50708c5e46576eddb2ffc8e7255aa6d08157c476c", func := "letterbag/letterbaglaw40.ClaimPromise", spec := "claimPromise", unfollowed := true, recurses := true, apart := false, narrowed := true }
def ClaimPromiseUptoSaid : Prop := claimPromiseUptoRow.holds Try.pinned (OpenSpec.upto claimPromiseSpec)

/-- 'letterbaglaw40.ClaimLater', WHERE WHAT IT READS IS OF BULK AT MOST 1048576: true; the input reads as it did. -/
def claimLaterUptoRow : OpenClaim := { program := "ytlmoijifgbkapaa", sum := "ba2693969fc2f7e3b3afcde50708c5e46576eddb2ffc8e7255aa6d08157c476c", func := "letterbag/letterbaglaw40.ClaimLater", spec := "claimLater", unfollowed := true, recurses := true, apart := false, narrowed := true }
def ClaimLaterUptoSaid : Prop := claimLaterUptoRow.holds Try.pinned (OpenSpec.upto claimLaterSpec)

/-- 'letterbaglaw40.ClaimDays', WHERE WHAT IT READS IS OF BULK AT MOST 1048576: true; the input reads as it did. -/
def claimDaysUptoRow : OpenClaim := { program := "ytlmoijifgbkapaa", sum := "ba2693969fc2f7e3b3afcde50708c5e46576eddb2ffc8e7255aa6d08157c476c", func := "letterbag/letterbaglaw40.ClaimDays", spec := "claimDays", unfollowed := true, recurses := true, apart := false, narrowed := true }
def ClaimDaysUptoSaid : Prop := claimDaysUptoRow.holds Try.pinned (OpenSpec.upto claimDaysSpec)

/-- 'letterbaglaw40.ClaimTells', WHERE WHAT IT READS IS OF BULK AT MOST 1048576: true; the input reads as it did. -/
def claimTellsUptoRow : OpenClaim := { program := "ytlmoijifgbkapaa", sum := "ba2693969fc2f7e3b3afcde50708c5e46576eddb2ffc8e7255aa6d08157c476c", func := "letterbag/letterbaglaw40.ClaimTells", spec := "claimTells", unfollowed := true, recurses := true, apart := false, narrowed := true }
def ClaimTellsUptoSaid : Prop := claimTellsUptoRow.holds Try.pinned (OpenSpec.upto claimTellsSpec)

/-- 'letterbaglaw40.ClaimSmall', WHERE WHAT IT READS IS OF BULK AT MOST 1048576: true; the input reads as it did. -/
def claimSmallUptoRow : OpenClaim := { program := "ytlmoijifgbkapaa", sum := "ba2693969fc2f7e3b3afcde50708c5e46576eddb2ffc8e7255aa6d08157c476c", func := "letterbag/letterbaglaw40.ClaimSmall", spec := "claimSmall", unfollowed := true, recurses := true, apart := false, narrowed := true }
def ClaimSmallUptoSaid : Prop := claimSmallUptoRow.holds Try.pinned (OpenSpec.upto claimSmallSpec)

/-- 'letterbaglaw40.ClaimOnce', WHERE WHAT IT READS IS OF BULK AT MOST 1048576: true; the input reads as it did. -/
def claimOnceUptoRow : OpenClaim := { program := "ytlmoijifgbkapaa", sum := "ba2693969fc2f7e3b3afcde50708c5e46576eddb2ffc8e7255aa6d08157c476c", func := "letterbag/letterbaglaw40.ClaimOnce", spec := "claimOnce", unfollowed := true, recurses := true, apart := false, narrowed := true }
def ClaimOnceUptoSaid : Prop := claimOnceUptoRow.holds Try.pinned (OpenSpec.upto claimOnceSpec)

/-- 'letterbaglaw40.ClaimTurned', WHERE WHAT IT READS IS OF BULK AT MOST 1048576: true; the input reads as it did. -/
def claimTurnedUptoRow : OpenClaim := { program := "ytlmoijifgbkapaa", sum := "ba2693969fc2f7e3b3afcde50708c5e46576eddb2ffc8e7255aa6d08157c476c", func := "letterbag/letterbaglaw40.ClaimTurned", spec := "claimTurned", unfollowed := true, recurses := true, apart := false, narrowed := true }
def ClaimTurnedUptoSaid : Prop := claimTurnedUptoRow.holds Try.pinned (OpenSpec.upto claimTurnedSpec)

end Rows
end Go.Proofs.Ytlmoijifgbkapaa
