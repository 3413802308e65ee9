/- What the rows of chapter 05 list: a world that meets it, and what it gives a walk. -/
import Derived.Test.YtignbealfpbpoaaGreatDoorRows
import Derived.Test.YtignbealfpbpoaaGreatDoorWb
import Derived.Lay
import Derived.LaidSub
import Derived.MakeChecks
import Derived.Lib.LaidTab
import Derived.LaidMore
set_option linter.all false
set_option maxRecDepth 100000
set_option maxHeartbeats 4000000
namespace Go.DL
open Go.Proofs Go Go.RowKit
open Go.Proofs.YtignbealfpbpoaaGreatDoor

/-- The variables that the rows list. -/
abbrev L7 : List (String × DataW Unit) := Rows.deedSharesRow.laid

theorem d_plain (W : World) : laidMetH Tryz.prog L7 W = laidMet Tryz.prog L7 W := MakeChecks.laidMetH_plain _ _ _ (by kernel_rfl)
theorem d_met (os : Os) (args : Array Value) : laidMetH Tryz.prog L7 ((World.laidAll Tryz.prog os L7).forCall (fun _ _ => 0) ⟨#[], args, []⟩).memory := by
  rw [d_plain]
  exact laidMet_laidAll _ (by kernel_rfl) (by kernel_rfl)

def spaceZ : List Int := List.replicate 9 0 ++ (List.replicate 5 1 ++ (List.replicate 18 0 ++ 1 :: List.replicate 223 0))
theorem spaceT_eq : spaceT = spaceZ.map fun z => Value.int .u8 z := by kernel_rfl
theorem laid_of {W : World} (h : laidMetH Tryz.prog L7 W) : Laid (fun n => n < W.heap.size) W := by
  rw [d_plain] at h
  have h1 := h.filter (fun x => x.1 == "strings.asciiSpace")
  have e : (L7.filter fun x => x.1 == "strings.asciiSpace") = [("strings.asciiSpace", Lib.tabData .u8 spaceZ)] := by kernel_rfl
  rw [e] at h1
  have ht := Lib.tabIs_of_head (g := 0) (t := 242) (e := 5) (n := 256) (by kernel_rfl) (by kernel_rfl) (by kernel_rfl) (by kernel_rfl) (by kernel_rfl) (by kernel_rfl) h1
  have hc : ∀ i, i < 256 → W.cell? ⟨0, i, none⟩ = some (.int .u8 (spaceZ.getD i 0)) := fun i hi => ht.cell (by kernel_rfl) i hi
  intro p hp
  have hp : p ∈ [(0, spaceT)] := hp
  simp only [List.mem_singleton] at hp
  subst hp
  refine ⟨?_, fun j v hj => ?_⟩
  · have := hc 0 (by decide)
    rcases Nat.lt_or_ge 0 W.heap.size with h | h
    · exact h
    · simp [World.cell?, Array.getElem?_eq_none h] at this
  · have hj : spaceT[j]? = some v := hj
    rw [spaceT_eq, List.getElem?_map] at hj
    have hlen : spaceZ.length = 256 := by decide
    rcases Nat.lt_or_ge j 256 with h | h
    · have hz : spaceZ[j]? = some (spaceZ.getD j 0) := by
        rw [List.getD, List.getElem?_eq_getElem (by rw [hlen]; exact h)]; rfl
      rw [hz] at hj
      cases hj
      exact hc j h
    · rw [List.getElem?_eq_none (by rw [hlen]; exact h)] at hj
      cases hj
end Go.DL
