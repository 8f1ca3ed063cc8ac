/-
  No cell of these rows narrows 'for every input' (looked for: loops, veiled, ifaces, maps, wideKeys, modest, calm, conditions, laid).
  DERIVED. THE GIVEN ROWS OF THIS SEAT. 14 by the template 'for every input the law returns true; each argument reads behind the call as it read before'; 0 by the template 'total and deterministic' (their statements: YtcmhnincbkbncaaTotals.lean).
  GIVEN WITH THE SEED: the statements are not yours to turn. If you find one false, say at which input.
  Laid BY PROGRAM, IN A SANDBOX (cutbox-rows.mjs): the forced cells as the released guide's own fill.sh prints them over the translation 5020eca34d9398b8… (all of the seat's roots in one cut). By AI agents, Wed Nov 11 2026. No macro, syntax, notation, axiom, sorry.
-/
import Derived.Test.YtcmhnincbkbncaaChecked
import GoSem.Claim
import GoSem.ClaimJoined
import GoSem.ClaimMapViews
import Derived.JoinedTies
import Derived.KernelRfl
namespace Go.Proofs.Ytcmhnincbkbncaa
/- THE CELL 'sum', in the pinned program and in every row, IS THE sha256 OF THE DUMP (.gsa) THAT YtcmhnincbkbncaaProg.lean LOADS. Nothing in Lean hashes anything: it is a label: what it is worth is what the hold of that sum in a sandbox is worth. -/
noncomputable def Try.pinned : Pinned := { name := "ytcmhnincbkbncaa", sum := "5020eca34d9398b8a070207547f50f4b2ae0afabf6fa49b7255df21afd716070", checked := Try.checked }
namespace Rows
def none {H : Type} : Left H := { results := [], args := [] }

/-- 'letterbaglaw33.RouteSmall': WHATEVER THE INPUT: true; the input reads as it did. -/
def routeSmallSpec : ChangeSpec := { name := "routeSmall", fn := fun _ => fun
  | [] => { results := [.lit (.bool true)], args := [] }
  | _ => none }
def routeSmallRow : OpenClaim := { program := "ytcmhnincbkbncaa", sum := "5020eca34d9398b8a070207547f50f4b2ae0afabf6fa49b7255df21afd716070", func := "letterbag/letterbaglaw33.RouteSmall", spec := "routeSmall", unfollowed := true, recurses := true, plainKeys := false, apart := false }
def RouteSmallSaid : Prop := routeSmallRow.holds Try.pinned (OpenSpec.ofChange routeSmallSpec)

/-- ITS FALSE NEIGHBOUR: 'it returns false'. Refute it at one input. -/
def routeSmallWrong : ChangeSpec := { name := "routeSmall", fn := fun _ => fun
  | [] => { results := [.lit (.bool false)], args := [] }
  | _ => none }
def RouteSmallWrongFalsely : Prop := routeSmallRow.holds Try.pinned (OpenSpec.ofChange routeSmallWrong)

/-- 'letterbaglaw33.RouteLater': WHATEVER THE INPUT: true; the input reads as it did. -/
def routeLaterSpec : ChangeSpec := { name := "routeLater", fn := fun _ => fun
  | [d1, d2, d3, d4] => { results := [.lit (.bool true)], args := [d1, d2, d3, d4] }
  | _ => none }
def routeLaterRow : OpenClaim := { program := "ytcmhnincbkbncaa", sum := "5020eca34d9398b8a070207547f50f4b2ae0afabf6fa49b7255df21afd716070", func := "letterbag/letterbaglaw33.RouteLater", spec := "routeLater", unfollowed := true, recurses := true, plainKeys := false, apart := false }
def RouteLaterSaid : Prop := routeLaterRow.holds Try.pinned (OpenSpec.ofChange routeLaterSpec)

/-- ITS FALSE NEIGHBOUR: 'it returns false'. Refute it at one input. -/
def routeLaterWrong : ChangeSpec := { name := "routeLater", fn := fun _ => fun
  | [d1, d2, d3, d4] => { results := [.lit (.bool false)], args := [d1, d2, d3, d4] }
  | _ => none }
def RouteLaterWrongFalsely : Prop := routeLaterRow.holds Try.pinned (OpenSpec.ofChange routeLaterWrong)

/-- 'letterbaglaw33.RouteLeave': WHATEVER THE INPUT: true; the input reads as it did. -/
def routeLeaveSpec : ChangeSpec := { name := "routeLeave", fn := fun _ => fun
  | [d1, d2, d3, d4] => { results := [.lit (.bool true)], args := [d1, d2, d3, d4] }
  | _ => none }
def routeLeaveRow : OpenClaim := { program := "ytcmhnincbkbncaa", sum := "5020eca34d9398b8a070207547f50f4b2ae0afabf6fa49b7255df21afd716070", func := "letterbag/letterbaglaw33.RouteLeave", spec := "routeLeave", unfollowed := true, recurses := true, plainKeys := false, apart := false }
def RouteLeaveSaid : Prop := routeLeaveRow.holds Try.pinned (OpenSpec.ofChange routeLeaveSpec)

/-- ITS FALSE NEIGHBOUR: 'it returns false'. Refute it at one input. -/
def routeLeaveWrong : ChangeSpec := { name := "routeLeave", fn := fun _ => fun
  | [d1, d2, d3, d4] => { results := [.lit (.bool false)], args := [d1, d2, d3, d4] }
  | _ => none }
def RouteLeaveWrongFalsely : Prop := routeLeaveRow.holds Try.pinned (OpenSpec.ofChange routeLeaveWrong)

/-- 'letterbaglaw33.RouteWithout': WHATEVER THE INPUT: true; the input reads as it did. -/
def routeWithoutSpec : ChangeSpec := { name := "routeWithout", fn := fun _ => fun
  | [d1, d2, d3, d4, d5] => { results := [.lit (.bool true)], args := [d1, d2, d3, d4, d5] }
  | _ => none }
def routeWithoutRow : OpenClaim := { program := "ytcmhnincbkbncaa", sum := "5020eca34d9398b8a070207547f50f4b2ae0afabf6fa49b7255df21afd716070", func := "letterbag/letterbaglaw33.RouteWithout", spec := "routeWithout", unfollowed := true, recurses := true, plainKeys := false, apart := false }
def RouteWithoutSaid : Prop := routeWithoutRow.holds Try.pinned (OpenSpec.ofChange routeWithoutSpec)

/-- ITS FALSE NEIGHBOUR: 'it returns false'. Refute it at one input. -/
def routeWithoutWrong : ChangeSpec := { name := "routeWithout", fn := fun _ => fun
  | [d1, d2, d3, d4, d5] => { results := [.lit (.bool false)], args := [d1, d2, d3, d4, d5] }
  | _ => none }
def RouteWithoutWrongFalsely : Prop := routeWithoutRow.holds Try.pinned (OpenSpec.ofChange routeWithoutWrong)

/-- 'letterbaglaw33.RouteTurned': WHATEVER THE INPUT: true; the input reads as it did. -/
def routeTurnedSpec : ChangeSpec := { name := "routeTurned", fn := fun _ => fun
  | [d1, d2, d3, d4] => { results := [.lit (.bool true)], args := [d1, d2, d3, d4] }
  | _ => none }
def routeTurnedRow : OpenClaim := { program := "ytcmhnincbkbncaa", sum := "5020eca34d9398b8a070207547f50f4b2ae0afabf6fa49b7255df21afd716070", func := "letterbag/letterbaglaw33.RouteTurned", spec := "routeTurned", unfollowed := true, recurses := true, plainKeys := false, apart := false }
def RouteTurnedSaid : Prop := routeTurnedRow.holds Try.pinned (OpenSpec.ofChange routeTurnedSpec)

/-- ITS FALSE NEIGHBOUR: 'it returns false'. Refute it at one input. -/
def routeTurnedWrong : ChangeSpec := { name := "routeTurned", fn := fun _ => fun
  | [d1, d2, d3, d4] => { results := [.lit (.bool false)], args := [d1, d2, d3, d4] }
  | _ => none }
def RouteTurnedWrongFalsely : Prop := routeTurnedRow.holds Try.pinned (OpenSpec.ofChange routeTurnedWrong)

/-- 'letterbaglaw33.RouteRight': WHATEVER THE INPUT: true; the input reads as it did. -/
def routeRightSpec : ChangeSpec := { name := "routeRight", fn := fun _ => fun
  | [d1, d2, d3, d4, d5] => { results := [.lit (.bool true)], args := [d1, d2, d3, d4, d5] }
  | _ => none }
def routeRightRow : OpenClaim := { program := "ytcmhnincbkbncaa", sum := "5020eca34d9398b8a070207547f50f4b2ae0afabf6fa49b7255df21afd716070", func := "letterbag/letterbaglaw33.RouteRight", spec := "routeRight", unfollowed := true, recurses := true, plainKeys := false, apart := false }
def RouteRightSaid : Prop := routeRightRow.holds Try.pinned (OpenSpec.ofChange routeRightSpec)

/-- ITS FALSE NEIGHBOUR: 'it returns false'. Refute it at one input. -/
def routeRightWrong : ChangeSpec := { name := "routeRight", fn := fun _ => fun
  | [d1, d2, d3, d4, d5] => { results := [.lit (.bool false)], args := [d1, d2, d3, d4, d5] }
  | _ => none }
def RouteRightWrongFalsely : Prop := routeRightRow.holds Try.pinned (OpenSpec.ofChange routeRightWrong)

/-- 'letterbaglaw33.RouteLeast': WHATEVER THE INPUT: true; the input reads as it did. -/
def routeLeastSpec : ChangeSpec := { name := "routeLeast", fn := fun _ => fun
  | [d1, d2, d3, d4, d5] => { results := [.lit (.bool true)], args := [d1, d2, d3, d4, d5] }
  | _ => none }
def routeLeastRow : OpenClaim := { program := "ytcmhnincbkbncaa", sum := "5020eca34d9398b8a070207547f50f4b2ae0afabf6fa49b7255df21afd716070", func := "letterbag/letterbaglaw33.RouteLeast", spec := "routeLeast", unfollowed := true, recurses := true, plainKeys := false, apart := false }
def RouteLeastSaid : Prop := routeLeastRow.holds Try.pinned (OpenSpec.ofChange routeLeastSpec)

/-- ITS FALSE NEIGHBOUR: 'it returns false'. Refute it at one input. -/
def routeLeastWrong : ChangeSpec := { name := "routeLeast", fn := fun _ => fun
  | [d1, d2, d3, d4, d5] => { results := [.lit (.bool false)], args := [d1, d2, d3, d4, d5] }
  | _ => none }
def RouteLeastWrongFalsely : Prop := routeLeastRow.holds Try.pinned (OpenSpec.ofChange routeLeastWrong)

/-- 'letterbaglaw33.RouteJoined': WHATEVER THE INPUT: true; the input reads as it did. -/
def routeJoinedSpec : ChangeSpec := { name := "routeJoined", fn := fun _ => fun
  | [d1, d2, d3, d4, d5] => { results := [.lit (.bool true)], args := [d1, d2, d3, d4, d5] }
  | _ => none }
def routeJoinedRow : OpenClaim := { program := "ytcmhnincbkbncaa", sum := "5020eca34d9398b8a070207547f50f4b2ae0afabf6fa49b7255df21afd716070", func := "letterbag/letterbaglaw33.RouteJoined", spec := "routeJoined", unfollowed := true, recurses := true, plainKeys := false, apart := false }
def RouteJoinedSaid : Prop := routeJoinedRow.holds Try.pinned (OpenSpec.ofChange routeJoinedSpec)

/-- ITS FALSE NEIGHBOUR: 'it returns false'. Refute it at one input. -/
def routeJoinedWrong : ChangeSpec := { name := "routeJoined", fn := fun _ => fun
  | [d1, d2, d3, d4, d5] => { results := [.lit (.bool false)], args := [d1, d2, d3, d4, d5] }
  | _ => none }
def RouteJoinedWrongFalsely : Prop := routeJoinedRow.holds Try.pinned (OpenSpec.ofChange routeJoinedWrong)

/-- 'letterbaglaw38.ItineraryTells': WHATEVER THE INPUT: true; the input reads as it did. -/
def itineraryTellsSpec : ChangeSpec := { name := "itineraryTells", fn := fun _ => fun
  | [d1, d2, d3] => { results := [.lit (.bool true)], args := [d1, d2, d3] }
  | _ => none }
def itineraryTellsRow : OpenClaim := { program := "ytcmhnincbkbncaa", sum := "5020eca34d9398b8a070207547f50f4b2ae0afabf6fa49b7255df21afd716070", func := "letterbag/letterbaglaw38.ItineraryTells", spec := "itineraryTells", unfollowed := true, recurses := true, plainKeys := false, apart := false }
def ItineraryTellsSaid : Prop := itineraryTellsRow.holds Try.pinned (OpenSpec.ofChange itineraryTellsSpec)

/-- ITS FALSE NEIGHBOUR: 'it returns false'. Refute it at one input. -/
def itineraryTellsWrong : ChangeSpec := { name := "itineraryTells", fn := fun _ => fun
  | [d1, d2, d3] => { results := [.lit (.bool false)], args := [d1, d2, d3] }
  | _ => none }
def ItineraryTellsWrongFalsely : Prop := itineraryTellsRow.holds Try.pinned (OpenSpec.ofChange itineraryTellsWrong)

/-- 'letterbaglaw38.ItineraryLeast': WHATEVER THE INPUT: true; the input reads as it did. -/
def itineraryLeastSpec : ChangeSpec := { name := "itineraryLeast", fn := fun _ => fun
  | [d1, d2] => { results := [.lit (.bool true)], args := [d1, d2] }
  | _ => none }
def itineraryLeastRow : OpenClaim := { program := "ytcmhnincbkbncaa", sum := "5020eca34d9398b8a070207547f50f4b2ae0afabf6fa49b7255df21afd716070", func := "letterbag/letterbaglaw38.ItineraryLeast", spec := "itineraryLeast", unfollowed := true, recurses := true, plainKeys := false, apart := false }
def ItineraryLeastSaid : Prop := itineraryLeastRow.holds Try.pinned (OpenSpec.ofChange itineraryLeastSpec)

/-- ITS FALSE NEIGHBOUR: 'it returns false'. Refute it at one input. -/
def itineraryLeastWrong : ChangeSpec := { name := "itineraryLeast", fn := fun _ => fun
  | [d1, d2] => { results := [.lit (.bool false)], args := [d1, d2] }
  | _ => none }
def ItineraryLeastWrongFalsely : Prop := itineraryLeastRow.holds Try.pinned (OpenSpec.ofChange itineraryLeastWrong)

/-- 'letterbaglaw38.ItineraryPrices': WHATEVER THE INPUT: true; the input reads as it did. -/
def itineraryPricesSpec : ChangeSpec := { name := "itineraryPrices", fn := fun _ => fun
  | [d1, d2, d3] => { results := [.lit (.bool true)], args := [d1, d2, d3] }
  | _ => none }
def itineraryPricesRow : OpenClaim := { program := "ytcmhnincbkbncaa", sum := "5020eca34d9398b8a070207547f50f4b2ae0afabf6fa49b7255df21afd716070", func := "letterbag/letterbaglaw38.ItineraryPrices", spec := "itineraryPrices", unfollowed := true, recurses := true, plainKeys := false, apart := false }
def ItineraryPricesSaid : Prop := itineraryPricesRow.holds Try.pinned (OpenSpec.ofChange itineraryPricesSpec)

/-- ITS FALSE NEIGHBOUR: 'it returns false'. Refute it at one input. -/
def itineraryPricesWrong : ChangeSpec := { name := "itineraryPrices", fn := fun _ => fun
  | [d1, d2, d3] => { results := [.lit (.bool false)], args := [d1, d2, d3] }
  | _ => none }
def ItineraryPricesWrongFalsely : Prop := itineraryPricesRow.holds Try.pinned (OpenSpec.ofChange itineraryPricesWrong)

/-- 'letterbaglaw38.ItineraryGrows': WHATEVER THE INPUT: true; the input reads as it did. -/
def itineraryGrowsSpec : ChangeSpec := { name := "itineraryGrows", fn := fun _ => fun
  | [d1, d2] => { results := [.lit (.bool true)], args := [d1, d2] }
  | _ => none }
def itineraryGrowsRow : OpenClaim := { program := "ytcmhnincbkbncaa", sum := "5020eca34d9398b8a070207547f50f4b2ae0afabf6fa49b7255df21afd716070", func := "letterbag/letterbaglaw38.ItineraryGrows", spec := "itineraryGrows", unfollowed := true, recurses := true, plainKeys := false, apart := false }
def ItineraryGrowsSaid : Prop := itineraryGrowsRow.holds Try.pinned (OpenSpec.ofChange itineraryGrowsSpec)

/-- ITS FALSE NEIGHBOUR: 'it returns false'. Refute it at one input. -/
def itineraryGrowsWrong : ChangeSpec := { name := "itineraryGrows", fn := fun _ => fun
  | [d1, d2] => { results := [.lit (.bool false)], args := [d1, d2] }
  | _ => none }
def ItineraryGrowsWrongFalsely : Prop := itineraryGrowsRow.holds Try.pinned (OpenSpec.ofChange itineraryGrowsWrong)

/-- 'letterbaglaw38.ItineraryWrong': WHATEVER THE INPUT: true; the input reads as it did. -/
def itineraryWrongSpec : ChangeSpec := { name := "itineraryWrong", fn := fun _ => fun
  | [d1, d2, d3, d4] => { results := [.lit (.bool true)], args := [d1, d2, d3, d4] }
  | _ => none }
def itineraryWrongRow : OpenClaim := { program := "ytcmhnincbkbncaa", sum := "5020eca34d9398b8a070207547f50f4b2ae0afabf6fa49b7255df21afd716070", func := "letterbag/letterbaglaw38.ItineraryWrong", spec := "itineraryWrong", unfollowed := true, recurses := true, plainKeys := false, apart := false }
def ItineraryWrongSaid : Prop := itineraryWrongRow.holds Try.pinned (OpenSpec.ofChange itineraryWrongSpec)

/-- ITS FALSE NEIGHBOUR: 'it returns false'. Refute it at one input. -/
def itineraryWrongWrong : ChangeSpec := { name := "itineraryWrong", fn := fun _ => fun
  | [d1, d2, d3, d4] => { results := [.lit (.bool false)], args := [d1, d2, d3, d4] }
  | _ => none }
def ItineraryWrongWrongFalsely : Prop := itineraryWrongRow.holds Try.pinned (OpenSpec.ofChange itineraryWrongWrong)

/-- 'letterbaglaw38.ItineraryClean': WHATEVER THE INPUT: true; the input reads as it did. -/
def itineraryCleanSpec : ChangeSpec := { name := "itineraryClean", fn := fun _ => fun
  | [d1, d2, d3, d4, d5] => { results := [.lit (.bool true)], args := [d1, d2, d3, d4, d5] }
  | _ => none }
def itineraryCleanRow : OpenClaim := { program := "ytcmhnincbkbncaa", sum := "5020eca34d9398b8a070207547f50f4b2ae0afabf6fa49b7255df21afd716070", func := "letterbag/letterbaglaw38.ItineraryClean", spec := "itineraryClean", unfollowed := true, recurses := true, plainKeys := false, apart := false }
def ItineraryCleanSaid : Prop := itineraryCleanRow.holds Try.pinned (OpenSpec.ofChange itineraryCleanSpec)

/-- ITS FALSE NEIGHBOUR: 'it returns false'. Refute it at one input. -/
def itineraryCleanWrong : ChangeSpec := { name := "itineraryClean", fn := fun _ => fun
  | [d1, d2, d3, d4, d5] => { results := [.lit (.bool false)], args := [d1, d2, d3, d4, d5] }
  | _ => none }
def ItineraryCleanWrongFalsely : Prop := itineraryCleanRow.holds Try.pinned (OpenSpec.ofChange itineraryCleanWrong)

/- THE SECOND FORM. 'bulk': how many values and letters a reading holds, each counted each time it is reached (what is shared counts as often as it is met; a slice's spare places count too). A statement '..UptoSaid' is the law's where the arguments, and the package variables that the reading takes, are together of bulk at most 1048576: NARROWER than '..Said'. Prove '..Said' where nothing that the law and all that it calls make is longer than what came in: it says more and counts as full. Else prove '..UptoSaid'. A law counts once. -/
mutual
def uptoBulk {H : Type} : DataW H → Nat
  | .lit (.string bytes) => bytes.length + 1
  | .lit _ => 1
  | .nil => 1
  | .ptr d => uptoBulk d + 1
  | .slice elems spare => uptoBulkAll elems + uptoBulkAll spare + 1
  | .agg parts => uptoBulkAll parts + 1
  | .iface _ d => uptoBulk d + 1
  | .map entries => uptoBulkEntries entries + 1
  | .held _ => 1
def uptoBulkAll {H : Type} : List (DataW H) → Nat
  | [] => 0
  | d :: r => uptoBulk d + uptoBulkAll r
def uptoBulkEntries {H : Type} : List (Lit × DataW H) → Nat
  | [] => 0
  | x :: r => uptoBulkEntry x + uptoBulkEntries r
def uptoBulkEntry {H : Type} : Lit × DataW H → Nat
  | (.string bytes, d) => bytes.length + uptoBulk d + 1
  | (_, d) => uptoBulk d + 1
 end
def uptoSmall : (H : Type) → List (DataW H) → Bool := fun _ ds => decide (uptoBulkAll ds ≤ 1048576)
def OpenSpec.upto (s : _root_.Go.ChangeSpec) : _root_.Go.OpenSpec := { _root_.Go.OpenSpec.ofChange s with cond := some uptoSmall }

/-- 'letterbaglaw33.RouteSmall', WHERE WHAT IT READS IS OF BULK AT MOST 1048576: true; the input reads as it did. -/
def routeSmallUptoRow : OpenClaim := { program := "ytcmhnincbkbncaa", sum := "5020eca34d9398b8a070207547f50f4b2ae0afabf6fa49b7255df21afd716070", func := "letterbag/letterbaglaw33.RouteSmall", spec := "routeSmall", unfollowed := true, recurses := true, plainKeys := false, apart := false, narrowed := true }
def RouteSmallUptoSaid : Prop := routeSmallUptoRow.holds Try.pinned (OpenSpec.upto routeSmallSpec)

/-- 'letterbaglaw33.RouteLater', WHERE WHAT IT READS IS OF BULK AT MOST 1048576: true; the input reads as it did. -/
def routeLaterUptoRow : OpenClaim := { program := "ytcmhnincbkbncaa", sum := "5020eca34d9398b8a070207547f50f4b2ae0afabf6fa49b7255df21afd716070", func := "letterbag/letterbaglaw33.RouteLater", spec := "routeLater", unfollowed := true, recurses := true, plainKeys := false, apart := false, narrowed := true }
def RouteLaterUptoSaid : Prop := routeLaterUptoRow.holds Try.pinned (OpenSpec.upto routeLaterSpec)

/-- 'letterbaglaw33.RouteLeave', WHERE WHAT IT READS IS OF BULK AT MOST 1048576: true; the input reads as it did. -/
def routeLeaveUptoRow : OpenClaim := { program := "ytcmhnincbkbncaa", sum := "5020eca34d9398b8a070207547f50f4b2ae0afabf6fa49b7255df21afd716070", func := "letterbag/letterbaglaw33.RouteLeave", spec := "routeLeave", unfollowed := true, recurses := true, plainKeys := false, apart := false, narrowed := true }
def RouteLeaveUptoSaid : Prop := routeLeaveUptoRow.holds Try.pinned (OpenSpec.upto routeLeaveSpec)

/-- 'letterbaglaw33.RouteWithout', WHERE WHAT IT READS IS OF BULK AT MOST 1048576: true; the input reads as it did. -/
def routeWithoutUptoRow : OpenClaim := { program := "ytcmhnincbkbncaa", sum := "5020eca34d9398b8a070207547f50f4b2ae0afabf6fa49b7255df21afd716070", func := "letterbag/letterbaglaw33.RouteWithout", spec := "routeWithout", unfollowed := true, recurses := true, plainKeys := false, apart := false, narrowed := true }
def RouteWithoutUptoSaid : Prop := routeWithoutUptoRow.holds Try.pinned (OpenSpec.upto routeWithoutSpec)

/-- 'letterbaglaw33.RouteTurned', WHERE WHAT IT READS IS OF BULK AT MOST 1048576: true; the input reads as it did. -/
def routeTurnedUptoRow : OpenClaim := { program := "ytcmhnincbkbncaa", sum := "5020eca34d9398b8a070207547f50f4b2ae0afabf6fa49b7255df21afd716070", func := "letterbag/letterbaglaw33.RouteTurned", spec := "routeTurned", unfollowed := true, recurses := true, plainKeys := false, apart := false, narrowed := true }
def RouteTurnedUptoSaid : Prop := routeTurnedUptoRow.holds Try.pinned (OpenSpec.upto routeTurnedSpec)

/-- 'letterbaglaw33.RouteRight', WHERE WHAT IT READS IS OF BULK AT MOST 1048576: true; the input reads as it did. -/
def routeRightUptoRow : OpenClaim := { program := "ytcmhnincbkbncaa", sum := "5020eca34d9398b8a070207547f50f4b2ae0afabf6fa49b7255df21afd716070", func := "letterbag/letterbaglaw33.RouteRight", spec := "routeRight", unfollowed := true, recurses := true, plainKeys := false, apart := false, narrowed := true }
def RouteRightUptoSaid : Prop := routeRightUptoRow.holds Try.pinned (OpenSpec.upto routeRightSpec)

/-- 'letterbaglaw33.RouteLeast', WHERE WHAT IT READS IS OF BULK AT MOST 1048576: true; the input reads as it did. -/
def routeLeastUptoRow : OpenClaim := { program := "ytcmhnincbkbncaa", sum := "5020eca34d9398b8a070207547f50f4b2ae0afabf6fa49b7255df21afd716070", func := "letterbag/letterbaglaw33.RouteLeast", spec := "routeLeast", unfollowed := true, recurses := true, plainKeys := false, apart := false, narrowed := true }
def RouteLeastUptoSaid : Prop := routeLeastUptoRow.holds Try.pinned (OpenSpec.upto routeLeastSpec)

/-- 'letterbaglaw33.RouteJoined', WHERE WHAT IT READS IS OF BULK AT MOST 1048576: true; the input reads as it did. -/
def routeJoinedUptoRow : OpenClaim := { program := "ytcmhnincbkbncaa", sum := "5020eca34d9398b8a070207547f50f4b2ae0afabf6fa49b7255df21afd716070", func := "letterbag/letterbaglaw33.RouteJoined", spec := "routeJoined", unfollowed := true, recurses := true, plainKeys := false, apart := false, narrowed := true }
def RouteJoinedUptoSaid : Prop := routeJoinedUptoRow.holds Try.pinned (OpenSpec.upto routeJoinedSpec)

/-- 'letterbaglaw38.ItineraryTells', WHERE WHAT IT READS IS OF BULK AT MOST 1048576: true; the input reads as it did. -/
def itineraryTellsUptoRow : OpenClaim := { program := "ytcmhnincbkbncaa", sum := "5020eca34d9398b8a070207547f50f4b2ae0afabf6fa49b7255df21afd716070", func := "letterbag/letterbaglaw38.ItineraryTells", spec := "itineraryTells", unfollowed := true, recurses := true, plainKeys := false, apart := false, narrowed := true }
def ItineraryTellsUptoSaid : Prop := itineraryTellsUptoRow.holds Try.pinned (OpenSpec.upto itineraryTellsSpec)

/-- 'letterbaglaw38.ItineraryLeast', WHERE WHAT IT READS IS OF BULK AT MOST 1048576: true; the input reads as it did. -/
def itineraryLeastUptoRow : OpenClaim := { program := "ytcmhnincbkbncaa", sum := "5020eca34d9398b8a070207547f50f4b2ae0afabf6fa49b7255df21afd716070", func := "letterbag/letterbaglaw38.ItineraryLeast", spec := "itineraryLeast", unfollowed := true, recurses := true, plainKeys := false, apart := false, narrowed := true }
def ItineraryLeastUptoSaid : Prop := itineraryLeastUptoRow.holds Try.pinned (OpenSpec.upto itineraryLeastSpec)

/-- 'letterbaglaw38.ItineraryPrices', WHERE WHAT IT READS IS OF BULK AT MOST 1048576: true; the input reads as it did. -/
def itineraryPricesUptoRow : OpenClaim := { program := "ytcmhnincbkbncaa", sum := "5020eca34d9398b8a070207547f50f4b2ae0afabf6fa49b7255df21afd716070", func := "letterbag/letterbaglaw38.ItineraryPrices", spec := "itineraryPrices", unfollowed := true, recurses := true, plainKeys := false, apart := false, narrowed := true }
def ItineraryPricesUptoSaid : Prop := itineraryPricesUptoRow.holds Try.pinned (OpenSpec.upto itineraryPricesSpec)

/-- 'letterbaglaw38.ItineraryGrows', WHERE WHAT IT READS IS OF BULK AT MOST 1048576: true; the input reads as it did. -/
def itineraryGrowsUptoRow : OpenClaim := { program := "ytcmhnincbkbncaa", sum := "5020eca34d9398b8a070207547f50f4b2ae0afabf6fa49b7255df21afd716070", func := "letterbag/letterbaglaw38.ItineraryGrows", spec := "itineraryGrows", unfollowed := true, recurses := true, plainKeys := false, apart := false, narrowed := true }
def ItineraryGrowsUptoSaid : Prop := itineraryGrowsUptoRow.holds Try.pinned (OpenSpec.upto itineraryGrowsSpec)

/-- 'letterbaglaw38.ItineraryWrong', WHERE WHAT IT READS IS OF BULK AT MOST 1048576: true; the input reads as it did. -/
def itineraryWrongUptoRow : OpenClaim := { program := "ytcmhnincbkbncaa", sum := "5020eca34d9398b8a070207547f50f4b2ae0afabf6fa49b7255df21afd716070", func := "letterbag/letterbaglaw38.ItineraryWrong", spec := "itineraryWrong", unfollowed := true, recurses := true, plainKeys := false, apart := false, narrowed := true }
def ItineraryWrongUptoSaid : Prop := itineraryWrongUptoRow.holds Try.pinned (OpenSpec.upto itineraryWrongSpec)

/-- 'letterbaglaw38.ItineraryClean', WHERE WHAT IT READS IS OF BULK AT MOST 1048576: true; the input reads as it did. -/
def itineraryCleanUptoRow : OpenClaim := { program := "ytcmhnincbkbncaa", sum := "5020eca34d9398b8a070207547f50f4b2ae0afabf6fa49b7255df21afd716070", func := "letterbag/letterbaglaw38.ItineraryClean", spec := "itineraryClean", unfollowed := true, recurses := true, plainKeys := false, apart := false, narrowed := true }
def ItineraryCleanUptoSaid : Prop := itineraryCleanUptoRow.holds Try.pinned (OpenSpec.upto itineraryCleanSpec)

end Rows
end Go.Proofs.Ytcmhnincbkbncaa
