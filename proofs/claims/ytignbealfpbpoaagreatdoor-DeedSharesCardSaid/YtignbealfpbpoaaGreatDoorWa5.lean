/- DeedShares: the statement of the tied card holds, for every input. -/
import Derived.Test.YtignbealfpbpoaaGreatDoorWa2
import Derived.Test.YtignbealfpbpoaaGreatDoorTie
import Derived.Test.YtignbealfpbpoaaGreatDoorCards
import Derived.SevenTiedAt
import Derived.Test.YtignbealfpbpoaaGreatDoorWa6
set_option linter.all false
set_option maxRecDepth 100000
namespace Go.Proofs.YtignbealfpbpoaaGreatDoor
open Go
theorem deedShares_named : Tryz.prog.funcNamed Rows.deedSharesRow.func = some 9 := by kernel_rfl
theorem deedShares_plain : ([38, 38].all fun u => !Tryz.prog.wantsStandIn u) = true := by kernel_rfl
theorem deedShares_goes : false = Rows.deedSharesRow.goesBy Tryz.pinned.checked.prog := by kernel_rfl
theorem deedShares_wf : Rows.deedSharesRow.wfByText (OpenSpec.ofChange Rows.deedSharesSpec) = true := by kernel_rfl
theorem deedShares_holds : Rows.DeedSharesCardSaid :=
  Claim7.holds_tied_plain_at .later [] [.data, .data, .data, .sentinel, .sentinel, .listed, .data] true (true, "d10dd671272a14330f650648f32e7823c1453eecb76dabf7807531a45e6744f6") true
    Go.DL.RowDeedShares.holds (fun _ h => by cases h) deedShares_wf (fun _ h => by cases h) deedShares_row_tie rfl ⟨rfl, rfl⟩ d_main rfl
    (fun f fn hf hfn => by
      obtain rfl : f = 9 := Option.some.inj (deedShares_named.symm.trans hf) |>.symm
      obtain rfl : fn = Tryz.f9 := (Option.some.inj (Tryz.func9.symm.trans hfn)).symm
      exact ⟨d_looks, fun j t ht => by
        have hp : Tryz.f9.params = #[38, 38] := rfl
        rw [hp] at ht
        have hm : t ∈ [38, 38] := by simpa using Array.mem_of_getElem? ht
        exact (show Tryz.prog.wantsStandIn t = false by simpa using List.all_eq_true.1 deedShares_plain t hm)⟩)
    deedShares_goes
end Go.Proofs.YtignbealfpbpoaaGreatDoor
