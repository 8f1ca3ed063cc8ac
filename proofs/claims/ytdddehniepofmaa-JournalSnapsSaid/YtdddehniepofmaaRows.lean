/-
  No cell of these rows narrows 'for every input' (looked for: loops, veiled, ifaces, maps, wideKeys, modest, calm, conditions, laid).
  DERIVED. THE GIVEN ROWS OF THIS SEAT. 8 by the template 'for every input the law returns true; each argument reads behind the call as it read before'; 0 by the template 'total and deterministic' (their statements: YtdddehniepofmaaTotals.lean).
  GIVEN WITH THE SEED: the statements are not yours to turn. If you find one false, say at which input.
  Laid BY PROGRAM, IN A SANDBOX (cutbox-rows.mjs): the forced cells as the released guide's own fill.sh prints them over the translation 28e1ae76f43364bb… (all of the seat's roots in one cut). By AI agents, Wed Nov 11 2026. No macro, syntax, notation, axiom, sorry.
-/
import Derived.Test.YtdddehniepofmaaChecked
import GoSem.Claim
import GoSem.ClaimJoined
import GoSem.ClaimMapViews
import Derived.JoinedTies
import Derived.KernelRfl
namespace Go.Proofs.Ytdddehniepofmaa
/- THE CELL 'sum', in the pinned program and in every row, IS THE sha256 OF THE DUMP (.gsa) THAT YtdddehniepofmaaProg.lean LOADS. Nothing in Lean hashes anything: it is a label: what it is worth is what the hold of that sum in a sandbox is worth. -/
noncomputable def Try.pinned : Pinned := { name := "ytdddehniepofmaa", sum := "28e1ae76f43364bb43b75de13b186ea56674f32aec814ba433f2d40cce514aa9", checked := Try.checked }
namespace Rows
def none {H : Type} : Left H := { results := [], args := [] }

/-- 'letterbaglaw42.JournalDisks': WHATEVER THE INPUT: true; the input reads as it did. -/
def journalDisksSpec : ChangeSpec := { name := "journalDisks", fn := fun _ => fun
  | [d1, d2, d3] => { results := [.lit (.bool true)], args := [d1, d2, d3] }
  | _ => none }
def journalDisksRow : OpenClaim := { program := "ytdddehniepofmaa", sum := "28e1ae76f43364bb43b75de13b186ea56674f32aec814ba433f2d40cce514aa9", func := "letterbag/letterbaglaw42.JournalDisks", spec := "journalDisks", unfollowed := true, recurses := true, apart := false }
def JournalDisksSaid : Prop := journalDisksRow.holds Try.pinned (OpenSpec.ofChange journalDisksSpec)

/-- ITS FALSE NEIGHBOUR: 'it returns false'. Refute it at one input. -/
def journalDisksWrong : ChangeSpec := { name := "journalDisks", fn := fun _ => fun
  | [d1, d2, d3] => { results := [.lit (.bool false)], args := [d1, d2, d3] }
  | _ => none }
def JournalDisksWrongFalsely : Prop := journalDisksRow.holds Try.pinned (OpenSpec.ofChange journalDisksWrong)

/-- 'letterbaglaw42.JournalPacks': WHATEVER THE INPUT: true; the input reads as it did. -/
def journalPacksSpec : ChangeSpec := { name := "journalPacks", fn := fun _ => fun
  | [d1, d2] => { results := [.lit (.bool true)], args := [d1, d2] }
  | _ => none }
def journalPacksRow : OpenClaim := { program := "ytdddehniepofmaa", sum := "28e1ae76f43364bb43b75de13b186ea56674f32aec814ba433f2d40cce514aa9", func := "letterbag/letterbaglaw42.JournalPacks", spec := "journalPacks", unfollowed := true, recurses := true, apart := false }
def JournalPacksSaid : Prop := journalPacksRow.holds Try.pinned (OpenSpec.ofChange journalPacksSpec)

/-- ITS FALSE NEIGHBOUR: 'it returns false'. Refute it at one input. -/
def journalPacksWrong : ChangeSpec := { name := "journalPacks", fn := fun _ => fun
  | [d1, d2] => { results := [.lit (.bool false)], args := [d1, d2] }
  | _ => none }
def JournalPacksWrongFalsely : Prop := journalPacksRow.holds Try.pinned (OpenSpec.ofChange journalPacksWrong)

/-- 'letterbaglaw42.JournalRooms': WHATEVER THE INPUT: true; the input reads as it did. -/
def journalRoomsSpec : ChangeSpec := { name := "journalRooms", fn := fun _ => fun
  | [d1, d2] => { results := [.lit (.bool true)], args := [d1, d2] }
  | _ => none }
def journalRoomsRow : OpenClaim := { program := "ytdddehniepofmaa", sum := "28e1ae76f43364bb43b75de13b186ea56674f32aec814ba433f2d40cce514aa9", func := "letterbag/letterbaglaw42.JournalRooms", spec := "journalRooms", unfollowed := true, recurses := true, apart := false }
def JournalRoomsSaid : Prop := journalRoomsRow.holds Try.pinned (OpenSpec.ofChange journalRoomsSpec)

/-- ITS FALSE NEIGHBOUR: 'it returns false'. Refute it at one input. -/
def journalRoomsWrong : ChangeSpec := { name := "journalRooms", fn := fun _ => fun
  | [d1, d2] => { results := [.lit (.bool false)], args := [d1, d2] }
  | _ => none }
def JournalRoomsWrongFalsely : Prop := journalRoomsRow.holds Try.pinned (OpenSpec.ofChange journalRoomsWrong)

/-- 'letterbaglaw42.JournalFixed': WHATEVER THE INPUT: true; the input reads as it did. -/
def journalFixedSpec : ChangeSpec := { name := "journalFixed", fn := fun _ => fun
  | [d1, d2] => { results := [.lit (.bool true)], args := [d1, d2] }
  | _ => none }
def journalFixedRow : OpenClaim := { program := "ytdddehniepofmaa", sum := "28e1ae76f43364bb43b75de13b186ea56674f32aec814ba433f2d40cce514aa9", func := "letterbag/letterbaglaw42.JournalFixed", spec := "journalFixed", unfollowed := true, recurses := true, apart := false }
def JournalFixedSaid : Prop := journalFixedRow.holds Try.pinned (OpenSpec.ofChange journalFixedSpec)

/-- ITS FALSE NEIGHBOUR: 'it returns false'. Refute it at one input. -/
def journalFixedWrong : ChangeSpec := { name := "journalFixed", fn := fun _ => fun
  | [d1, d2] => { results := [.lit (.bool false)], args := [d1, d2] }
  | _ => none }
def JournalFixedWrongFalsely : Prop := journalFixedRow.holds Try.pinned (OpenSpec.ofChange journalFixedWrong)

/-- 'letterbaglaw42.JournalBack': WHATEVER THE INPUT: true; the input reads as it did. -/
def journalBackSpec : ChangeSpec := { name := "journalBack", fn := fun _ => fun
  | [d1, d2, d3] => { results := [.lit (.bool true)], args := [d1, d2, d3] }
  | _ => none }
def journalBackRow : OpenClaim := { program := "ytdddehniepofmaa", sum := "28e1ae76f43364bb43b75de13b186ea56674f32aec814ba433f2d40cce514aa9", func := "letterbag/letterbaglaw42.JournalBack", spec := "journalBack", unfollowed := true, recurses := true, apart := false }
def JournalBackSaid : Prop := journalBackRow.holds Try.pinned (OpenSpec.ofChange journalBackSpec)

/-- ITS FALSE NEIGHBOUR: 'it returns false'. Refute it at one input. -/
def journalBackWrong : ChangeSpec := { name := "journalBack", fn := fun _ => fun
  | [d1, d2, d3] => { results := [.lit (.bool false)], args := [d1, d2, d3] }
  | _ => none }
def JournalBackWrongFalsely : Prop := journalBackRow.holds Try.pinned (OpenSpec.ofChange journalBackWrong)

/-- 'letterbaglaw42.JournalKeeps': WHATEVER THE INPUT: true; the input reads as it did. -/
def journalKeepsSpec : ChangeSpec := { name := "journalKeeps", fn := fun _ => fun
  | [d1, d2] => { results := [.lit (.bool true)], args := [d1, d2] }
  | _ => none }
def journalKeepsRow : OpenClaim := { program := "ytdddehniepofmaa", sum := "28e1ae76f43364bb43b75de13b186ea56674f32aec814ba433f2d40cce514aa9", func := "letterbag/letterbaglaw42.JournalKeeps", spec := "journalKeeps", unfollowed := true, recurses := true, apart := false }
def JournalKeepsSaid : Prop := journalKeepsRow.holds Try.pinned (OpenSpec.ofChange journalKeepsSpec)

/-- ITS FALSE NEIGHBOUR: 'it returns false'. Refute it at one input. -/
def journalKeepsWrong : ChangeSpec := { name := "journalKeeps", fn := fun _ => fun
  | [d1, d2] => { results := [.lit (.bool false)], args := [d1, d2] }
  | _ => none }
def JournalKeepsWrongFalsely : Prop := journalKeepsRow.holds Try.pinned (OpenSpec.ofChange journalKeepsWrong)

/-- 'letterbaglaw42.JournalSnaps': WHATEVER THE INPUT: true; the input reads as it did. -/
def journalSnapsSpec : ChangeSpec := { name := "journalSnaps", fn := fun _ => fun
  | [d1, d2, d3, d4] => { results := [.lit (.bool true)], args := [d1, d2, d3, d4] }
  | _ => none }
def journalSnapsRow : OpenClaim := { program := "ytdddehniepofmaa", sum := "28e1ae76f43364bb43b75de13b186ea56674f32aec814ba433f2d40cce514aa9", func := "letterbag/letterbaglaw42.JournalSnaps", spec := "journalSnaps", unfollowed := true, recurses := true, apart := false }
def JournalSnapsSaid : Prop := journalSnapsRow.holds Try.pinned (OpenSpec.ofChange journalSnapsSpec)

/-- ITS FALSE NEIGHBOUR: 'it returns false'. Refute it at one input. -/
def journalSnapsWrong : ChangeSpec := { name := "journalSnaps", fn := fun _ => fun
  | [d1, d2, d3, d4] => { results := [.lit (.bool false)], args := [d1, d2, d3, d4] }
  | _ => none }
def JournalSnapsWrongFalsely : Prop := journalSnapsRow.holds Try.pinned (OpenSpec.ofChange journalSnapsWrong)

/-- 'letterbaglaw42.JournalIdle': WHATEVER THE INPUT: true; the input reads as it did. -/
def journalIdleSpec : ChangeSpec := { name := "journalIdle", fn := fun _ => fun
  | [d1, d2] => { results := [.lit (.bool true)], args := [d1, d2] }
  | _ => none }
def journalIdleRow : OpenClaim := { program := "ytdddehniepofmaa", sum := "28e1ae76f43364bb43b75de13b186ea56674f32aec814ba433f2d40cce514aa9", func := "letterbag/letterbaglaw42.JournalIdle", spec := "journalIdle", unfollowed := true, recurses := true, apart := false }
def JournalIdleSaid : Prop := journalIdleRow.holds Try.pinned (OpenSpec.ofChange journalIdleSpec)

/-- ITS FALSE NEIGHBOUR: 'it returns false'. Refute it at one input. -/
def journalIdleWrong : ChangeSpec := { name := "journalIdle", fn := fun _ => fun
  | [d1, d2] => { results := [.lit (.bool false)], args := [d1, d2] }
  | _ => none }
def JournalIdleWrongFalsely : Prop := journalIdleRow.holds Try.pinned (OpenSpec.ofChange journalIdleWrong)

/- THE SECOND FORM. 'bulk': how many values and letters a reading holds, each counted each time it is reached (what is shared counts as often as it is met; a slice's spare places count too). A statement '..UptoSaid' is the law's where the arguments, and the package variables that the reading takes, are together of bulk at most 1048576: NARROWER than '..Said'. Prove '..Said' where nothing that the law and all that it calls make is longer than what came in: it says more and counts as full. Else prove '..UptoSaid'. A law counts once. -/
mutual
def uptoBulk {H : Type} : DataW H → Nat
  | .lit (.string bytes) => bytes.length + 1
  | .lit _ => 1
  | .nil => 1
  | .ptr d => uptoBulk d + 1
  | .slice elems spare => uptoBulkAll elems + uptoBulkAll spare + 1
  | .agg parts => uptoBulkAll parts + 1
  | .iface _ d => uptoBulk d + 1
  | .map entries => uptoBulkEntries entries + 1
  | .held _ => 1
def uptoBulkAll {H : Type} : List (DataW H) → Nat
  | [] => 0
  | d :: r => uptoBulk d + uptoBulkAll r
def uptoBulkEntries {H : Type} : List (Lit × DataW H) → Nat
  | [] => 0
  | x :: r => uptoBulkEntry x + uptoBulkEntries r
def uptoBulkEntry {H : Type} : Lit × DataW H → Nat
  | (.string bytes, d) => bytes.length + uptoBulk d + 1
  | (_, d) => uptoBulk d + 1
 end
def uptoSmall : (H : Type) → List (DataW H) → Bool := fun _ ds => decide (uptoBulkAll ds ≤ 1048576)
def OpenSpec.upto (s : _root_.Go.ChangeSpec) : _root_.Go.OpenSpec := { _root_.Go.OpenSpec.ofChange s with cond := some uptoSmall }

/-- 'letterbaglaw42.JournalDisks', WHERE WHAT IT READS IS OF BULK AT MOST 1048576: true; the input reads as it did. -/
def journalDisksUptoRow : OpenClaim := { program := "ytdddehniepofmaa", sum := "28e1ae76f43364bb43b75de13b186ea56674f32aec814ba433f2d40cce514aa9", func := "letterbag/letterbaglaw42.JournalDisks", spec := "journalDisks", unfollowed := true, recurses := true, apart := false, narrowed := true }
def JournalDisksUptoSaid : Prop := journalDisksUptoRow.holds Try.pinned (OpenSpec.upto journalDisksSpec)

/-- 'letterbaglaw42.JournalPacks', WHERE WHAT IT READS IS OF BULK AT MOST 1048576: true; the input reads as it did. -/
def journalPacksUptoRow : OpenClaim := { program := "ytdddehniepofmaa", sum := "28e1ae76f43364bb43b75de13b186ea56674f32aec814ba433f2d40cce514aa9", func := "letterbag/letterbaglaw42.JournalPacks", spec := "journalPacks", unfollowed := true, recurses := true, apart := false, narrowed := true }
def JournalPacksUptoSaid : Prop := journalPacksUptoRow.holds Try.pinned (OpenSpec.upto journalPacksSpec)

/-- 'letterbaglaw42.JournalRooms', WHERE WHAT IT READS IS OF BULK AT MOST 1048576: true; the input reads as it did. -/
def journalRoomsUptoRow : OpenClaim := { program := "ytdddehniepofmaa", sum := "28e1ae76f43364bb43b75de13b186ea56674f32aec814ba433f2d40cce514aa9", func := "letterbag/letterbaglaw42.JournalRooms", spec := "journalRooms", unfollowed := true, recurses := true, apart := false, narrowed := true }
def JournalRoomsUptoSaid : Prop := journalRoomsUptoRow.holds Try.pinned (OpenSpec.upto journalRoomsSpec)

/-- 'letterbaglaw42.JournalFixed', WHERE WHAT IT READS IS OF BULK AT MOST 1048576: true; the input reads as it did. -/
def journalFixedUptoRow : OpenClaim := { program := "ytdddehniepofmaa", sum := "28e1ae76f43364bb43b75de13b186ea56674f32aec814ba433f2d40cce514aa9", func := "letterbag/letterbaglaw42.JournalFixed", spec := "journalFixed", unfollowed := true, recurses := true, apart := false, narrowed := true }
def JournalFixedUptoSaid : Prop := journalFixedUptoRow.holds Try.pinned (OpenSpec.upto journalFixedSpec)

/-- 'letterbaglaw42.JournalBack', WHERE WHAT IT READS IS OF BULK AT MOST 1048576: true; the input reads as it did. -/
def journalBackUptoRow : OpenClaim := { program := "ytdddehniepofmaa", sum := "28e1ae76f43364bb43b75de13b186ea56674f32aec814ba433f2d40cce514aa9", func := "letterbag/letterbaglaw42.JournalBack", spec := "journalBack", unfollowed := true, recurses := true, apart := false, narrowed := true }
def JournalBackUptoSaid : Prop := journalBackUptoRow.holds Try.pinned (OpenSpec.upto journalBackSpec)

/-- 'letterbaglaw42.JournalKeeps', WHERE WHAT IT READS IS OF BULK AT MOST 1048576: true; the input reads as it did. -/
def journalKeepsUptoRow : OpenClaim := { program := "ytdddehniepofmaa", sum := "28e1ae76f43364bb43b75de13b186ea56674f32aec814ba433f2d40cce514aa9", func := "letterbag/letterbaglaw42.JournalKeeps", spec := "journalKeeps", unfollowed := true, recurses := true, apart := false, narrowed := true }
def JournalKeepsUptoSaid : Prop := journalKeepsUptoRow.holds Try.pinned (OpenSpec.upto journalKeepsSpec)

/-- 'letterbaglaw42.JournalSnaps', WHERE WHAT IT READS IS OF BULK AT MOST 1048576: true; the input reads as it did. -/
def journalSnapsUptoRow : OpenClaim := { program := "ytdddehniepofmaa", sum := "28e1ae76f43364bb43b75de13b186ea56674f32aec814ba433f2d40cce514aa9", func := "letterbag/letterbaglaw42.JournalSnaps", spec := "journalSnaps", unfollowed := true, recurses := true, apart := false, narrowed := true }
def JournalSnapsUptoSaid : Prop := journalSnapsUptoRow.holds Try.pinned (OpenSpec.upto journalSnapsSpec)

/-- 'letterbaglaw42.JournalIdle', WHERE WHAT IT READS IS OF BULK AT MOST 1048576: true; the input reads as it did. -/
def journalIdleUptoRow : OpenClaim := { program := "ytdddehniepofmaa", sum := "28e1ae76f43364bb43b75de13b186ea56674f32aec814ba433f2d40cce514aa9", func := "letterbag/letterbaglaw42.JournalIdle", spec := "journalIdle", unfollowed := true, recurses := true, apart := false, narrowed := true }
def JournalIdleUptoSaid : Prop := journalIdleUptoRow.holds Try.pinned (OpenSpec.upto journalIdleSpec)

end Rows
end Go.Proofs.Ytdddehniepofmaa
