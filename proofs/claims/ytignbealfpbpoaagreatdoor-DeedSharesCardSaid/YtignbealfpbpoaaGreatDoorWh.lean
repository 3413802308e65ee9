/- The example is parsed. -/
import Derived.Test.YtignbealfpbpoaaGreatDoorWn
import Derived.Test.YtignbealfpbpoaaGreatDoorWo
set_option linter.all false
set_option maxRecDepth 100000
set_option maxHeartbeats 16000000
namespace Go.DL
open Go.Proofs Go
noncomputable def Bi : Tbl := { Bg tabC with I := fun f a b => if Nat.beq f 138 = true ∧ eqLs (eqDn 8) a [] = true ∧ eqLs (eqDn 8) b [.rp [src]] = true then some toks else none }
theorem Bi_ok : Bi.Ok :=
  { Bg_ok tabC_ok with
    it := fun f a b s h => by
      simp only [Bi] at h
      split at h
      · rename_i hc
        obtain ⟨c1, c2, c3⟩ := hc
        cases h
        rw [Nat.eq_of_beq_eq_true c1, eqLs_ok (eqDn_ok 8) c2, eqLs_ok (eqDn_ok 8) c3]
        exact it_toks
      · cases h }
theorem m_parse : Maps Tryz.prog 22 [src] (.tup [.fl c6, wI 0, wI 0]) := (run_ok Bi_ok 400).own (by kernel_rfl)
end Go.DL
