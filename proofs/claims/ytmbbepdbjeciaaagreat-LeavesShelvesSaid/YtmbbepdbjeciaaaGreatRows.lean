/-
  No cell of these rows narrows 'for every input' (looked for: loops, veiled, ifaces, maps, wideKeys, modest, calm, conditions, laid).
  DERIVED. THE GIVEN ROWS OF THIS SEAT. 11 by the template 'for every input the law returns true; each argument reads behind the call as it read before'; 0 by the template 'total and deterministic' (their statements: YtmbbepdbjeciaaaGreatTotals.lean).
  GIVEN WITH THE SEED: the statements are not yours to turn. If you find one false, say at which input.
  Laid BY PROGRAM, IN A SANDBOX (cutbox-rows.mjs): the forced cells as the released guide's own fill.sh prints them over the translation 8149ed541d4a1976… (all of the seat's roots in one cut). By AI agents, Wed Nov 11 2026. No macro, syntax, notation, axiom, sorry.
-/
import Derived.Test.YtmbbepdbjeciaaaGreatChecked
import GoSem.Claim
import GoSem.ClaimJoined
import GoSem.ClaimMapViews
import Derived.JoinedTies
import Derived.KernelRfl
namespace Go.Proofs.YtmbbepdbjeciaaaGreat
/- THE CELL 'sum', in the pinned program and in every row, IS THE sha256 OF THE DUMP (.gsa) THAT YtmbbepdbjeciaaaGreatProg.lean LOADS. Nothing in Lean hashes anything: it is a label: what it is worth is what the hold of that sum in a sandbox is worth. -/
noncomputable def Tryz.pinned : Pinned := { name := "ytmbbepdbjeciaaagreat", sum := "8149ed541d4a19766675e6deab5e8436086f79365f6a0741e29d79354ab2eadb", checked := Tryz.checked }
namespace Rows
def none {H : Type} : Left H := { results := [], args := [] }

/-- 'drownerlaw09.LeavesWhole': WHATEVER THE INPUT: true; the input reads as it did. -/
def leavesWholeSpec : ChangeSpec := { name := "leavesWhole", fn := fun _ => fun
  | [d1, d2, d3] => { results := [.lit (.bool true)], args := [d1, d2, d3] }
  | _ => none }
def leavesWholeRow : OpenClaim := { program := "ytmbbepdbjeciaaagreat", sum := "8149ed541d4a19766675e6deab5e8436086f79365f6a0741e29d79354ab2eadb", func := "drowner/drownerlaw09.LeavesWhole", spec := "leavesWhole", unfollowed := true, recurses := true, apart := false }
def LeavesWholeSaid : Prop := leavesWholeRow.holds Tryz.pinned (OpenSpec.ofChange leavesWholeSpec)

/-- ITS FALSE NEIGHBOUR: 'it returns false'. Refute it at one input. -/
def leavesWholeWrong : ChangeSpec := { name := "leavesWhole", fn := fun _ => fun
  | [d1, d2, d3] => { results := [.lit (.bool false)], args := [d1, d2, d3] }
  | _ => none }
def LeavesWholeWrongFalsely : Prop := leavesWholeRow.holds Tryz.pinned (OpenSpec.ofChange leavesWholeWrong)

/-- 'drownerlaw09.LeavesMend': WHATEVER THE INPUT: true; the input reads as it did. -/
def leavesMendSpec : ChangeSpec := { name := "leavesMend", fn := fun _ => fun
  | [d1, d2] => { results := [.lit (.bool true)], args := [d1, d2] }
  | _ => none }
def leavesMendRow : OpenClaim := { program := "ytmbbepdbjeciaaagreat", sum := "8149ed541d4a19766675e6deab5e8436086f79365f6a0741e29d79354ab2eadb", func := "drowner/drownerlaw09.LeavesMend", spec := "leavesMend", unfollowed := true, recurses := true, apart := false }
def LeavesMendSaid : Prop := leavesMendRow.holds Tryz.pinned (OpenSpec.ofChange leavesMendSpec)

/-- ITS FALSE NEIGHBOUR: 'it returns false'. Refute it at one input. -/
def leavesMendWrong : ChangeSpec := { name := "leavesMend", fn := fun _ => fun
  | [d1, d2] => { results := [.lit (.bool false)], args := [d1, d2] }
  | _ => none }
def LeavesMendWrongFalsely : Prop := leavesMendRow.holds Tryz.pinned (OpenSpec.ofChange leavesMendWrong)

/-- 'drownerlaw09.LeavesJudges': WHATEVER THE INPUT: true; the input reads as it did. -/
def leavesJudgesSpec : ChangeSpec := { name := "leavesJudges", fn := fun _ => fun
  | [d1, d2, d3, d4, d5, d6] => { results := [.lit (.bool true)], args := [d1, d2, d3, d4, d5, d6] }
  | _ => none }
def leavesJudgesRow : OpenClaim := { program := "ytmbbepdbjeciaaagreat", sum := "8149ed541d4a19766675e6deab5e8436086f79365f6a0741e29d79354ab2eadb", func := "drowner/drownerlaw09.LeavesJudges", spec := "leavesJudges", unfollowed := true, recurses := true, apart := false }
def LeavesJudgesSaid : Prop := leavesJudgesRow.holds Tryz.pinned (OpenSpec.ofChange leavesJudgesSpec)

/-- ITS FALSE NEIGHBOUR: 'it returns false'. Refute it at one input. -/
def leavesJudgesWrong : ChangeSpec := { name := "leavesJudges", fn := fun _ => fun
  | [d1, d2, d3, d4, d5, d6] => { results := [.lit (.bool false)], args := [d1, d2, d3, d4, d5, d6] }
  | _ => none }
def LeavesJudgesWrongFalsely : Prop := leavesJudgesRow.holds Tryz.pinned (OpenSpec.ofChange leavesJudgesWrong)

/-- 'drownerlaw09.LeavesLines': WHATEVER THE INPUT: true; the input reads as it did. -/
def leavesLinesSpec : ChangeSpec := { name := "leavesLines", fn := fun _ => fun
  | [d1, d2, d3] => { results := [.lit (.bool true)], args := [d1, d2, d3] }
  | _ => none }
def leavesLinesRow : OpenClaim := { program := "ytmbbepdbjeciaaagreat", sum := "8149ed541d4a19766675e6deab5e8436086f79365f6a0741e29d79354ab2eadb", func := "drowner/drownerlaw09.LeavesLines", spec := "leavesLines", unfollowed := true, recurses := true, apart := false }
def LeavesLinesSaid : Prop := leavesLinesRow.holds Tryz.pinned (OpenSpec.ofChange leavesLinesSpec)

/-- ITS FALSE NEIGHBOUR: 'it returns false'. Refute it at one input. -/
def leavesLinesWrong : ChangeSpec := { name := "leavesLines", fn := fun _ => fun
  | [d1, d2, d3] => { results := [.lit (.bool false)], args := [d1, d2, d3] }
  | _ => none }
def LeavesLinesWrongFalsely : Prop := leavesLinesRow.holds Tryz.pinned (OpenSpec.ofChange leavesLinesWrong)

/-- 'drownerlaw09.LeavesDigests': WHATEVER THE INPUT: true; the input reads as it did. -/
def leavesDigestsSpec : ChangeSpec := { name := "leavesDigests", fn := fun _ => fun
  | [d1, d2, d3] => { results := [.lit (.bool true)], args := [d1, d2, d3] }
  | _ => none }
def leavesDigestsRow : OpenClaim := { program := "ytmbbepdbjeciaaagreat", sum := "8149ed541d4a19766675e6deab5e8436086f79365f6a0741e29d79354ab2eadb", func := "drowner/drownerlaw09.LeavesDigests", spec := "leavesDigests", unfollowed := true, recurses := true, apart := false }
def LeavesDigestsSaid : Prop := leavesDigestsRow.holds Tryz.pinned (OpenSpec.ofChange leavesDigestsSpec)

/-- ITS FALSE NEIGHBOUR: 'it returns false'. Refute it at one input. -/
def leavesDigestsWrong : ChangeSpec := { name := "leavesDigests", fn := fun _ => fun
  | [d1, d2, d3] => { results := [.lit (.bool false)], args := [d1, d2, d3] }
  | _ => none }
def LeavesDigestsWrongFalsely : Prop := leavesDigestsRow.holds Tryz.pinned (OpenSpec.ofChange leavesDigestsWrong)

/-- 'drownerlaw09.LeavesJoin': WHATEVER THE INPUT: true; the input reads as it did. -/
def leavesJoinSpec : ChangeSpec := { name := "leavesJoin", fn := fun _ => fun
  | [d1, d2] => { results := [.lit (.bool true)], args := [d1, d2] }
  | _ => none }
def leavesJoinRow : OpenClaim := { program := "ytmbbepdbjeciaaagreat", sum := "8149ed541d4a19766675e6deab5e8436086f79365f6a0741e29d79354ab2eadb", func := "drowner/drownerlaw09.LeavesJoin", spec := "leavesJoin", unfollowed := true, recurses := true, apart := false }
def LeavesJoinSaid : Prop := leavesJoinRow.holds Tryz.pinned (OpenSpec.ofChange leavesJoinSpec)

/-- ITS FALSE NEIGHBOUR: 'it returns false'. Refute it at one input. -/
def leavesJoinWrong : ChangeSpec := { name := "leavesJoin", fn := fun _ => fun
  | [d1, d2] => { results := [.lit (.bool false)], args := [d1, d2] }
  | _ => none }
def LeavesJoinWrongFalsely : Prop := leavesJoinRow.holds Tryz.pinned (OpenSpec.ofChange leavesJoinWrong)

/-- 'drownerlaw09.LeavesCopies': WHATEVER THE INPUT: true; the input reads as it did. -/
def leavesCopiesSpec : ChangeSpec := { name := "leavesCopies", fn := fun _ => fun
  | [d1, d2, d3, d4] => { results := [.lit (.bool true)], args := [d1, d2, d3, d4] }
  | _ => none }
def leavesCopiesRow : OpenClaim := { program := "ytmbbepdbjeciaaagreat", sum := "8149ed541d4a19766675e6deab5e8436086f79365f6a0741e29d79354ab2eadb", func := "drowner/drownerlaw09.LeavesCopies", spec := "leavesCopies", unfollowed := true, recurses := true, apart := false }
def LeavesCopiesSaid : Prop := leavesCopiesRow.holds Tryz.pinned (OpenSpec.ofChange leavesCopiesSpec)

/-- ITS FALSE NEIGHBOUR: 'it returns false'. Refute it at one input. -/
def leavesCopiesWrong : ChangeSpec := { name := "leavesCopies", fn := fun _ => fun
  | [d1, d2, d3, d4] => { results := [.lit (.bool false)], args := [d1, d2, d3, d4] }
  | _ => none }
def LeavesCopiesWrongFalsely : Prop := leavesCopiesRow.holds Tryz.pinned (OpenSpec.ofChange leavesCopiesWrong)

/-- 'drownerlaw09.LeavesKnown': WHATEVER THE INPUT: true; the input reads as it did. -/
def leavesKnownSpec : ChangeSpec := { name := "leavesKnown", fn := fun _ => fun
  | [d1, d2, d3] => { results := [.lit (.bool true)], args := [d1, d2, d3] }
  | _ => none }
def leavesKnownRow : OpenClaim := { program := "ytmbbepdbjeciaaagreat", sum := "8149ed541d4a19766675e6deab5e8436086f79365f6a0741e29d79354ab2eadb", func := "drowner/drownerlaw09.LeavesKnown", spec := "leavesKnown", unfollowed := true, recurses := true, apart := false }
def LeavesKnownSaid : Prop := leavesKnownRow.holds Tryz.pinned (OpenSpec.ofChange leavesKnownSpec)

/-- ITS FALSE NEIGHBOUR: 'it returns false'. Refute it at one input. -/
def leavesKnownWrong : ChangeSpec := { name := "leavesKnown", fn := fun _ => fun
  | [d1, d2, d3] => { results := [.lit (.bool false)], args := [d1, d2, d3] }
  | _ => none }
def LeavesKnownWrongFalsely : Prop := leavesKnownRow.holds Tryz.pinned (OpenSpec.ofChange leavesKnownWrong)

/-- 'drownerlaw09.LeavesBooks': WHATEVER THE INPUT: true; the input reads as it did. -/
def leavesBooksSpec : ChangeSpec := { name := "leavesBooks", fn := fun _ => fun
  | [d1, d2, d3, d4, d5] => { results := [.lit (.bool true)], args := [d1, d2, d3, d4, d5] }
  | _ => none }
def leavesBooksRow : OpenClaim := { program := "ytmbbepdbjeciaaagreat", sum := "8149ed541d4a19766675e6deab5e8436086f79365f6a0741e29d79354ab2eadb", func := "drowner/drownerlaw09.LeavesBooks", spec := "leavesBooks", unfollowed := true, recurses := true, apart := false }
def LeavesBooksSaid : Prop := leavesBooksRow.holds Tryz.pinned (OpenSpec.ofChange leavesBooksSpec)

/-- ITS FALSE NEIGHBOUR: 'it returns false'. Refute it at one input. -/
def leavesBooksWrong : ChangeSpec := { name := "leavesBooks", fn := fun _ => fun
  | [d1, d2, d3, d4, d5] => { results := [.lit (.bool false)], args := [d1, d2, d3, d4, d5] }
  | _ => none }
def LeavesBooksWrongFalsely : Prop := leavesBooksRow.holds Tryz.pinned (OpenSpec.ofChange leavesBooksWrong)

/-- 'drownerlaw09.LeavesShelves': WHATEVER THE INPUT: true; the input reads as it did. -/
def leavesShelvesSpec : ChangeSpec := { name := "leavesShelves", fn := fun _ => fun
  | [d1, d2, d3] => { results := [.lit (.bool true)], args := [d1, d2, d3] }
  | _ => none }
def leavesShelvesRow : OpenClaim := { program := "ytmbbepdbjeciaaagreat", sum := "8149ed541d4a19766675e6deab5e8436086f79365f6a0741e29d79354ab2eadb", func := "drowner/drownerlaw09.LeavesShelves", spec := "leavesShelves", unfollowed := true, recurses := true, apart := false }
def LeavesShelvesSaid : Prop := leavesShelvesRow.holds Tryz.pinned (OpenSpec.ofChange leavesShelvesSpec)

/-- ITS FALSE NEIGHBOUR: 'it returns false'. Refute it at one input. -/
def leavesShelvesWrong : ChangeSpec := { name := "leavesShelves", fn := fun _ => fun
  | [d1, d2, d3] => { results := [.lit (.bool false)], args := [d1, d2, d3] }
  | _ => none }
def LeavesShelvesWrongFalsely : Prop := leavesShelvesRow.holds Tryz.pinned (OpenSpec.ofChange leavesShelvesWrong)

/-- 'drownerlaw09.LeavesStored': WHATEVER THE INPUT: true; the input reads as it did. -/
def leavesStoredSpec : ChangeSpec := { name := "leavesStored", fn := fun _ => fun
  | [d1, d2, d3, d4] => { results := [.lit (.bool true)], args := [d1, d2, d3, d4] }
  | _ => none }
def leavesStoredRow : OpenClaim := { program := "ytmbbepdbjeciaaagreat", sum := "8149ed541d4a19766675e6deab5e8436086f79365f6a0741e29d79354ab2eadb", func := "drowner/drownerlaw09.LeavesStored", spec := "leavesStored", unfollowed := true, recurses := true, apart := false }
def LeavesStoredSaid : Prop := leavesStoredRow.holds Tryz.pinned (OpenSpec.ofChange leavesStoredSpec)

/-- ITS FALSE NEIGHBOUR: 'it returns false'. Refute it at one input. -/
def leavesStoredWrong : ChangeSpec := { name := "leavesStored", fn := fun _ => fun
  | [d1, d2, d3, d4] => { results := [.lit (.bool false)], args := [d1, d2, d3, d4] }
  | _ => none }
def LeavesStoredWrongFalsely : Prop := leavesStoredRow.holds Tryz.pinned (OpenSpec.ofChange leavesStoredWrong)

/- THE SECOND FORM. 'bulk': how many values and letters a reading holds, each counted each time it is reached (what is shared counts as often as it is met; a slice's spare places count too). A statement '..UptoSaid' is the law's where the arguments, and the package variables that the reading takes, are together of bulk at most 1048576: NARROWER than '..Said'. Prove '..Said' where nothing that the law and all that it calls make is longer than what came in: it says more and counts as full. Else prove '..UptoSaid'. A law counts once. -/
mutual
def uptoBulk {H : Type} : DataW H → Nat
  | .lit (.string bytes) => bytes.length + 1
  | .lit _ => 1
  | .nil => 1
  | .ptr d => uptoBulk d + 1
  | .slice elems spare => uptoBulkAll elems + uptoBulkAll spare + 1
  | .agg parts => uptoBulkAll parts + 1
  | .iface _ d => uptoBulk d + 1
  | .map entries => uptoBulkEntries entries + 1
  | .held _ => 1
def uptoBulkAll {H : Type} : List (DataW H) → Nat
  | [] => 0
  | d :: r => uptoBulk d + uptoBulkAll r
def uptoBulkEntries {H : Type} : List (Lit × DataW H) → Nat
  | [] => 0
  | x :: r => uptoBulkEntry x + uptoBulkEntries r
def uptoBulkEntry {H : Type} : Lit × DataW H → Nat
  | (.string bytes, d) => bytes.length + uptoBulk d + 1
  | (_, d) => uptoBulk d + 1
 end
def uptoSmall : (H : Type) → List (DataW H) → Bool := fun _ ds => decide (uptoBulkAll ds ≤ 1048576)
def OpenSpec.upto (s : _root_.Go.ChangeSpec) : _root_.Go.OpenSpec := { _root_.Go.OpenSpec.ofChange s with cond := some uptoSmall }

/-- 'drownerlaw09.LeavesWhole', WHERE WHAT IT READS IS OF BULK AT MOST 1048576: true; the input reads as it did. -/
def leavesWholeUptoRow : OpenClaim := { program := "ytmbbepdbjeciaaagreat", sum := "8149ed541d4a19766675e6deab5e8436086f79365f6a0741e29d79354ab2eadb", func := "drowner/drownerlaw09.LeavesWhole", spec := "leavesWhole", unfollowed := true, recurses := true, apart := false, narrowed := true }
def LeavesWholeUptoSaid : Prop := leavesWholeUptoRow.holds Tryz.pinned (OpenSpec.upto leavesWholeSpec)

/-- 'drownerlaw09.LeavesMend', WHERE WHAT IT READS IS OF BULK AT MOST 1048576: true; the input reads as it did. -/
def leavesMendUptoRow : OpenClaim := { program := "ytmbbepdbjeciaaagreat", sum := "8149ed541d4a19766675e6deab5e8436086f79365f6a0741e29d79354ab2eadb", func := "drowner/drownerlaw09.LeavesMend", spec := "leavesMend", unfollowed := true, recurses := true, apart := false, narrowed := true }
def LeavesMendUptoSaid : Prop := leavesMendUptoRow.holds Tryz.pinned (OpenSpec.upto leavesMendSpec)

/-- 'drownerlaw09.LeavesJudges', WHERE WHAT IT READS IS OF BULK AT MOST 1048576: true; the input reads as it did. -/
def leavesJudgesUptoRow : OpenClaim := { program := "ytmbbepdbjeciaaagreat", sum := "8149ed541d4a19766675e6deab5e8436086f79365f6a0741e29d79354ab2eadb", func := "drowner/drownerlaw09.LeavesJudges", spec := "leavesJudges", unfollowed := true, recurses := true, apart := false, narrowed := true }
def LeavesJudgesUptoSaid : Prop := leavesJudgesUptoRow.holds Tryz.pinned (OpenSpec.upto leavesJudgesSpec)

/-- 'drownerlaw09.LeavesLines', WHERE WHAT IT READS IS OF BULK AT MOST 1048576: true; the input reads as it did. -/
def leavesLinesUptoRow : OpenClaim := { program := "ytmbbepdbjeciaaagreat", sum := "8149ed541d4a19766675e6deab5e8436086f79365f6a0741e29d79354ab2eadb", func := "drowner/drownerlaw09.LeavesLines", spec := "leavesLines", unfollowed := true, recurses := true, apart := false, narrowed := true }
def LeavesLinesUptoSaid : Prop := leavesLinesUptoRow.holds Tryz.pinned (OpenSpec.upto leavesLinesSpec)

/-- 'drownerlaw09.LeavesDigests', WHERE WHAT IT READS IS OF BULK AT MOST 1048576: true; the input reads as it did. -/
def leavesDigestsUptoRow : OpenClaim := { program := "ytmbbepdbjeciaaagreat", sum := "8149ed541d4a19766675e6deab5e8436086f79365f6a0741e29d79354ab2eadb", func := "drowner/drownerlaw09.LeavesDigests", spec := "leavesDigests", unfollowed := true, recurses := true, apart := false, narrowed := true }
def LeavesDigestsUptoSaid : Prop := leavesDigestsUptoRow.holds Tryz.pinned (OpenSpec.upto leavesDigestsSpec)

/-- 'drownerlaw09.LeavesJoin', WHERE WHAT IT READS IS OF BULK AT MOST 1048576: true; the input reads as it did. -/
def leavesJoinUptoRow : OpenClaim := { program := "ytmbbepdbjeciaaagreat", sum := "8149ed541d4a19766675e6deab5e8436086f79365f6a0741e29d79354ab2eadb", func := "drowner/drownerlaw09.LeavesJoin", spec := "leavesJoin", unfollowed := true, recurses := true, apart := false, narrowed := true }
def LeavesJoinUptoSaid : Prop := leavesJoinUptoRow.holds Tryz.pinned (OpenSpec.upto leavesJoinSpec)

/-- 'drownerlaw09.LeavesCopies', WHERE WHAT IT READS IS OF BULK AT MOST 1048576: true; the input reads as it did. -/
def leavesCopiesUptoRow : OpenClaim := { program := "ytmbbepdbjeciaaagreat", sum := "8149ed541d4a19766675e6deab5e8436086f79365f6a0741e29d79354ab2eadb", func := "drowner/drownerlaw09.LeavesCopies", spec := "leavesCopies", unfollowed := true, recurses := true, apart := false, narrowed := true }
def LeavesCopiesUptoSaid : Prop := leavesCopiesUptoRow.holds Tryz.pinned (OpenSpec.upto leavesCopiesSpec)

/-- 'drownerlaw09.LeavesKnown', WHERE WHAT IT READS IS OF BULK AT MOST 1048576: true; the input reads as it did. -/
def leavesKnownUptoRow : OpenClaim := { program := "ytmbbepdbjeciaaagreat", sum := "8149ed541d4a19766675e6deab5e8436086f79365f6a0741e29d79354ab2eadb", func := "drowner/drownerlaw09.LeavesKnown", spec := "leavesKnown", unfollowed := true, recurses := true, apart := false, narrowed := true }
def LeavesKnownUptoSaid : Prop := leavesKnownUptoRow.holds Tryz.pinned (OpenSpec.upto leavesKnownSpec)

/-- 'drownerlaw09.LeavesBooks', WHERE WHAT IT READS IS OF BULK AT MOST 1048576: true; the input reads as it did. -/
def leavesBooksUptoRow : OpenClaim := { program := "ytmbbepdbjeciaaagreat", sum := "8149ed541d4a19766675e6deab5e8436086f79365f6a0741e29d79354ab2eadb", func := "drowner/drownerlaw09.LeavesBooks", spec := "leavesBooks", unfollowed := true, recurses := true, apart := false, narrowed := true }
def LeavesBooksUptoSaid : Prop := leavesBooksUptoRow.holds Tryz.pinned (OpenSpec.upto leavesBooksSpec)

/-- 'drownerlaw09.LeavesShelves', WHERE WHAT IT READS IS OF BULK AT MOST 1048576: true; the input reads as it did. -/
def leavesShelvesUptoRow : OpenClaim := { program := "ytmbbepdbjeciaaagreat", sum := "8149ed541d4a19766675e6deab5e8436086f79365f6a0741e29d79354ab2eadb", func := "drowner/drownerlaw09.LeavesShelves", spec := "leavesShelves", unfollowed := true, recurses := true, apart := false, narrowed := true }
def LeavesShelvesUptoSaid : Prop := leavesShelvesUptoRow.holds Tryz.pinned (OpenSpec.upto leavesShelvesSpec)

/-- 'drownerlaw09.LeavesStored', WHERE WHAT IT READS IS OF BULK AT MOST 1048576: true; the input reads as it did. -/
def leavesStoredUptoRow : OpenClaim := { program := "ytmbbepdbjeciaaagreat", sum := "8149ed541d4a19766675e6deab5e8436086f79365f6a0741e29d79354ab2eadb", func := "drowner/drownerlaw09.LeavesStored", spec := "leavesStored", unfollowed := true, recurses := true, apart := false, narrowed := true }
def LeavesStoredUptoSaid : Prop := leavesStoredUptoRow.holds Tryz.pinned (OpenSpec.upto leavesStoredSpec)

end Rows
end Go.Proofs.YtmbbepdbjeciaaaGreat
