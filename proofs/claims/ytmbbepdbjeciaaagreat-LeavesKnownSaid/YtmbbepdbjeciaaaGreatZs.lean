/- Sorting a few words, and comparing lists. -/
import Derived.Test.YtmbbepdbjeciaaaGreatZm1
import Derived.Test.YtmbbepdbjeciaaaGreatZe
set_option maxRecDepth 100000
set_option maxHeartbeats 16000000
namespace Go.DL
open Go.Proofs Go

theorem m_nan (a : Int) : Maps Tryz.prog 172 [wI a] (wB false) := by
  refine Maps.vt pok Tryz.f172 (n := 6) (rs := [.tmp 2]) rfl rfl rfl rfl rfl rfl fun g => ?_
  repeat (any_goals (first | (refine d_RT ?_; (first | refine RT.nil ?_ | refine RT.v (f_neqF rfl rfl rfl) ?_ | refine RT.mvA ?_ | refine RT.asA ?_)) | (refine d_VT ?_; (first | refine VT.seq rfl ?_ | refine VT.reg rfl ?_ | refine VT.ret rfl ?_)) | (with_reducible refine d_kEr ?_; refine kEr rfl ?_)))
  rfl
section
variable {P : Program} {H : List Blk} {s n : Nat} {al : AL} {tx ty' : TypeId} {x y : Operand} {a b : Int}
theorem f_gtrT (hx : evA n al x = wI a) (hy : evA n al y = wI b) (h : b < a) : Val P H s n al (.binOp .gtr tx x y ty') (wB true) := by
  have h1 := f_gtr (P := P) (H := H) (s := s) (tx := tx) (ty' := ty') hx hy
  rwa [decide_eq_true h] at h1
theorem f_gtrF (hx : evA n al x = wI a) (hy : evA n al y = wI b) (h : ¬ b < a) : Val P H s n al (.binOp .gtr tx x y ty') (wB false) := by
  have h1 := f_gtr (P := P) (H := H) (s := s) (tx := tx) (ty' := ty') hx hy
  rwa [decide_eq_false h] at h1
end
end Go.DL
