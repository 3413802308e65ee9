/- All leaves of data. -/
import Derived.Test.YtmbbepdbjeciaaaGreatZx
import Derived.Test.YtmbbepdbjeciaaaGreatZj
import Derived.Test.YtmbbepdbjeciaaaGreatE5
set_option maxRecDepth 100000
set_option maxHeartbeats 16000000
namespace Go.DL
open Go.Proofs Go

/-- Rows of words of a width. -/
def dataW (w : Nat) (d : List (List Int)) : Prop := d.length ≤ 20 ∧ ∀ r, r ∈ d → r.length = w ∧ allW r
theorem dataW_of {s : Shape} {d : List (List Int)} (h : CkOk s) (hd : DataS s d = true) : dataW s.Width.toNat d := by
  simp only [DataS, Bool.and_eq_true, decide_eq_true_eq] at hd
  refine ⟨by omega, fun r hr => ?_⟩
  have := List.all_eq_true.1 hd.2 r hr
  simp only [rowOk, Bool.and_eq_true, decide_eq_true_eq] at this
  exact ⟨by omega, allW_of this.2⟩
end Go.DL
