/- The program of chapter 05: its tables; the interpreter's start. -/
import Derived.Test.YtignbealfpbpoaaGreatDoorProg
import Derived.Test.YtignbealfpbpoaaGreatDoorE8
import Derived.Laws.Pointers
import Derived.KernelRfl
set_option linter.all false
set_option maxRecDepth 100000
set_option maxHeartbeats 16000000
namespace Go.DL
open Go.Proofs Go

/-- The table of spaces, as the library lays it. -/
def spaceT : List Value := (List.replicate 9 (.int .u8 0) ++ (List.replicate 5 (.int .u8 1) ++ (List.replicate 18 (.int .u8 0) ++ (.int .u8 1) :: List.replicate 223 (.int .u8 0))))
instance tabsW : Tabs := ⟨[(0, spaceT)]⟩

theorem pok : POk Tryz.prog := ⟨by kernel_rfl, by kernel_rfl⟩
theorem mixedOk : Tryz.prog.follows .mixedOrders = true := by kernel_rfl

noncomputable def B0 : Tbl where
  P := Tryz.prog
theorem B0_ok : B0.Ok where
  map := fun _ _ _ h => by cases h
  it := fun _ _ _ _ h => by cases h
  mixed := pok.mixed
  names := pok.names
  cat := fun _ _ _ _ _ _ h => by cases h
  sp := fun _ _ _ _ _ h => by cases h
end Go.DL
