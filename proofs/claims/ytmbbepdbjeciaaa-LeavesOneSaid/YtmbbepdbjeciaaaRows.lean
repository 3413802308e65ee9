/-
  No cell of these rows narrows 'for every input' (looked for: loops, veiled, ifaces, maps, wideKeys, modest, calm, conditions, laid).
  DERIVED. THE GIVEN ROWS OF THIS SEAT. 4 by the template 'for every input the law returns true; each argument reads behind the call as it read before'; 0 by the template 'total and deterministic' (their statements: YtmbbepdbjeciaaaTotals.lean).
  GIVEN WITH THE SEED: the statements are not yours to turn. If you find one false, say at which input.
  Laid BY PROGRAM, IN A SANDBOX (cutbox-rows.mjs): the forced cells as the released guide's own fill.sh prints them over the translation c88fd7d4ec8ede9f… (all of the seat's roots in one cut). By AI agents, Wed Nov 11 2026. No macro, syntax, notation, axiom, sorry.
-/
import Derived.Test.YtmbbepdbjeciaaaChecked
import GoSem.Claim
import GoSem.ClaimJoined
import GoSem.ClaimMapViews
import Derived.JoinedTies
import Derived.KernelRfl
namespace Go.Proofs.Ytmbbepdbjeciaaa
/- THE CELL 'sum', in the pinned program and in every row, IS THE sha256 OF THE DUMP (.gsa) THAT YtmbbepdbjeciaaaProg.lean LOADS. Nothing in Lean hashes anything: it is a label: what it is worth is what the hold of that sum in a sandbox is worth. -/
noncomputable def Try.pinned : Pinned := { name := "ytmbbepdbjeciaaa", sum := "c88fd7d4ec8ede9f44c413dce77b6f1b66236d07da67c52f5bbbb6bb1e0d401b", checked := Try.checked }
namespace Rows
def none {H : Type} : Left H := { results := [], args := [] }

/-- 'drownerlaw09.LeavesWords': WHATEVER THE INPUT: true; the input reads as it did. -/
def leavesWordsSpec : ChangeSpec := { name := "leavesWords", fn := fun _ => fun
  | [d1, d2, d3, d4] => { results := [.lit (.bool true)], args := [d1, d2, d3, d4] }
  | _ => none }
def leavesWordsRow : OpenClaim := { program := "ytmbbepdbjeciaaa", sum := "c88fd7d4ec8ede9f44c413dce77b6f1b66236d07da67c52f5bbbb6bb1e0d401b", func := "drowner/drownerlaw09.LeavesWords", spec := "leavesWords", unfollowed := true, recurses := true, apart := false }
def LeavesWordsSaid : Prop := leavesWordsRow.holds Try.pinned (OpenSpec.ofChange leavesWordsSpec)

/-- ITS FALSE NEIGHBOUR: 'it returns false'. Refute it at one input. -/
def leavesWordsWrong : ChangeSpec := { name := "leavesWords", fn := fun _ => fun
  | [d1, d2, d3, d4] => { results := [.lit (.bool false)], args := [d1, d2, d3, d4] }
  | _ => none }
def LeavesWordsWrongFalsely : Prop := leavesWordsRow.holds Try.pinned (OpenSpec.ofChange leavesWordsWrong)

/-- 'drownerlaw09.LeavesInterpolate': WHATEVER THE INPUT: true; the input reads as it did. -/
def leavesInterpolateSpec : ChangeSpec := { name := "leavesInterpolate", fn := fun _ => fun
  | [d1, d2, d3, d4] => { results := [.lit (.bool true)], args := [d1, d2, d3, d4] }
  | _ => none }
def leavesInterpolateRow : OpenClaim := { program := "ytmbbepdbjeciaaa", sum := "c88fd7d4ec8ede9f44c413dce77b6f1b66236d07da67c52f5bbbb6bb1e0d401b", func := "drowner/drownerlaw09.LeavesInterpolate", spec := "leavesInterpolate", unfollowed := true, recurses := true, apart := false }
def LeavesInterpolateSaid : Prop := leavesInterpolateRow.holds Try.pinned (OpenSpec.ofChange leavesInterpolateSpec)

/-- ITS FALSE NEIGHBOUR: 'it returns false'. Refute it at one input. -/
def leavesInterpolateWrong : ChangeSpec := { name := "leavesInterpolate", fn := fun _ => fun
  | [d1, d2, d3, d4] => { results := [.lit (.bool false)], args := [d1, d2, d3, d4] }
  | _ => none }
def LeavesInterpolateWrongFalsely : Prop := leavesInterpolateRow.holds Try.pinned (OpenSpec.ofChange leavesInterpolateWrong)

/-- 'drownerlaw09.LeavesRecover': WHATEVER THE INPUT: true; the input reads as it did. -/
def leavesRecoverSpec : ChangeSpec := { name := "leavesRecover", fn := fun _ => fun
  | [d1, d2, d3] => { results := [.lit (.bool true)], args := [d1, d2, d3] }
  | _ => none }
def leavesRecoverRow : OpenClaim := { program := "ytmbbepdbjeciaaa", sum := "c88fd7d4ec8ede9f44c413dce77b6f1b66236d07da67c52f5bbbb6bb1e0d401b", func := "drowner/drownerlaw09.LeavesRecover", spec := "leavesRecover", unfollowed := true, recurses := true, apart := false }
def LeavesRecoverSaid : Prop := leavesRecoverRow.holds Try.pinned (OpenSpec.ofChange leavesRecoverSpec)

/-- ITS FALSE NEIGHBOUR: 'it returns false'. Refute it at one input. -/
def leavesRecoverWrong : ChangeSpec := { name := "leavesRecover", fn := fun _ => fun
  | [d1, d2, d3] => { results := [.lit (.bool false)], args := [d1, d2, d3] }
  | _ => none }
def LeavesRecoverWrongFalsely : Prop := leavesRecoverRow.holds Try.pinned (OpenSpec.ofChange leavesRecoverWrong)

/-- 'drownerlaw09.LeavesOne': WHATEVER THE INPUT: true; the input reads as it did. -/
def leavesOneSpec : ChangeSpec := { name := "leavesOne", fn := fun _ => fun
  | [d1, d2, d3, d4] => { results := [.lit (.bool true)], args := [d1, d2, d3, d4] }
  | _ => none }
def leavesOneRow : OpenClaim := { program := "ytmbbepdbjeciaaa", sum := "c88fd7d4ec8ede9f44c413dce77b6f1b66236d07da67c52f5bbbb6bb1e0d401b", func := "drowner/drownerlaw09.LeavesOne", spec := "leavesOne", unfollowed := true, recurses := true, apart := false }
def LeavesOneSaid : Prop := leavesOneRow.holds Try.pinned (OpenSpec.ofChange leavesOneSpec)

/-- ITS FALSE NEIGHBOUR: 'it returns false'. Refute it at one input. -/
def leavesOneWrong : ChangeSpec := { name := "leavesOne", fn := fun _ => fun
  | [d1, d2, d3, d4] => { results := [.lit (.bool false)], args := [d1, d2, d3, d4] }
  | _ => none }
def LeavesOneWrongFalsely : Prop := leavesOneRow.holds Try.pinned (OpenSpec.ofChange leavesOneWrong)

/- THE SECOND FORM. 'bulk': how many values and letters a reading holds, each counted each time it is reached (what is shared counts as often as it is met; a slice's spare places count too). A statement '..UptoSaid' is the law's where the arguments, and the package variables that the reading takes, are together of bulk at most 1048576: NARROWER than '..Said'. Prove '..Said' where nothing that the law and all that it calls make is longer than what came in: it says more and counts as full. Else prove '..UptoSaid'. A law counts once. -/
mutual
def uptoBulk {H : Type} : DataW H → Nat
  | .lit (.string bytes) => bytes.length + 1
  | .lit _ => 1
  | .nil => 1
  | .ptr d => uptoBulk d + 1
  | .slice elems spare => uptoBulkAll elems + uptoBulkAll spare + 1
  | .agg parts => uptoBulkAll parts + 1
  | .iface _ d => uptoBulk d + 1
  | .map entries => uptoBulkEntries entries + 1
  | .held _ => 1
def uptoBulkAll {H : Type} : List (DataW H) → Nat
  | [] => 0
  | d :: r => uptoBulk d + uptoBulkAll r
def uptoBulkEntries {H : Type} : List (Lit × DataW H) → Nat
  | [] => 0
  | x :: r => uptoBulkEntry x + uptoBulkEntries r
def uptoBulkEntry {H : Type} : Lit × DataW H → Nat
  | (.string bytes, d) => bytes.length + uptoBulk d + 1
  | (_, d) => uptoBulk d + 1
 end
def uptoSmall : (H : Type) → List (DataW H) → Bool := fun _ ds => decide (uptoBulkAll ds ≤ 1048576)
def OpenSpec.upto (s : _root_.Go.ChangeSpec) : _root_.Go.OpenSpec := { _root_.Go.OpenSpec.ofChange s with cond := some uptoSmall }

/-- 'drownerlaw09.LeavesWords', WHERE WHAT IT READS IS OF BULK AT MOST 1048576: true; the input reads as it did. -/
def leavesWordsUptoRow : OpenClaim := { program := "ytmbbepdbjeciaaa", sum := "c88fd7d4ec8ede9f44c413dce77b6f1b66236d07da67c52f5bbbb6bb1e0d401b", func := "drowner/drownerlaw09.LeavesWords", spec := "leavesWords", unfollowed := true, recurses := true, apart := false, narrowed := true }
def LeavesWordsUptoSaid : Prop := leavesWordsUptoRow.holds Try.pinned (OpenSpec.upto leavesWordsSpec)

/-- 'drownerlaw09.LeavesInterpolate', WHERE WHAT IT READS IS OF BULK AT MOST 1048576: true; the input reads as it did. -/
def leavesInterpolateUptoRow : OpenClaim := { program := "ytmbbepdbjeciaaa", sum := "c88fd7d4ec8ede9f44c413dce77b6f1b66236d07da67c52f5bbbb6bb1e0d401b", func := "drowner/drownerlaw09.LeavesInterpolate", spec := "leavesInterpolate", unfollowed := true, recurses := true, apart := false, narrowed := true }
def LeavesInterpolateUptoSaid : Prop := leavesInterpolateUptoRow.holds Try.pinned (OpenSpec.upto leavesInterpolateSpec)

/-- 'drownerlaw09.LeavesRecover', WHERE WHAT IT READS IS OF BULK AT MOST 1048576: true; the input reads as it did. -/
def leavesRecoverUptoRow : OpenClaim := { program := "ytmbbepdbjeciaaa", sum := "c88fd7d4ec8ede9f44c413dce77b6f1b66236d07da67c52f5bbbb6bb1e0d401b", func := "drowner/drownerlaw09.LeavesRecover", spec := "leavesRecover", unfollowed := true, recurses := true, apart := false, narrowed := true }
def LeavesRecoverUptoSaid : Prop := leavesRecoverUptoRow.holds Try.pinned (OpenSpec.upto leavesRecoverSpec)

/-- 'drownerlaw09.LeavesOne', WHERE WHAT IT READS IS OF BULK AT MOST 1048576: true; the input reads as it did. -/
def leavesOneUptoRow : OpenClaim := { program := "ytmbbepdbjeciaaa", sum := "c88fd7d4ec8ede9f44c413dce77b6f1b66236d07da67c52f5bbbb6bb1e0d401b", func := "drowner/drownerlaw09.LeavesOne", spec := "leavesOne", unfollowed := true, recurses := true, apart := false, narrowed := true }
def LeavesOneUptoSaid : Prop := leavesOneUptoRow.holds Try.pinned (OpenSpec.upto leavesOneSpec)

end Rows
end Go.Proofs.Ytmbbepdbjeciaaa
