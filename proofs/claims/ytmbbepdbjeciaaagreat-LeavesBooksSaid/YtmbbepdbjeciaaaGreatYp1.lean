/- Data compared. -/
import Derived.Test.YtmbbepdbjeciaaaGreatZs
import Derived.Test.YtmbbepdbjeciaaaGreatZx
import Derived.Test.YtmbbepdbjeciaaaGreatE6
set_option maxRecDepth 100000
set_option maxHeartbeats 16000000
namespace Go.DL
open Go.Proofs Go
theorem m_same1 (a b : List Int) (hl : a.length ≤ 4611686018427387904) (hl' : b.length ≤ 4611686018427387904) : Maps Tryz.prog 138 [.sl (a.map eI), .sl (b.map eI)] (wB (decide (a = b))) := by
  refine Maps.vt pok Tryz.f138 (n := 8) (rs := [.tmp 4]) rfl rfl rfl rfl rfl rfl fun g => ?_
  repeat (any_goals (first | (apply w_any; (first | refine RT.nil ?_ | refine RT.mvA ?_ | refine RT.asA ?_ | refine RT.callM rfl (m_equal a b hl hl') rfl rfl ?_)) | (apply v_any; (first | refine VT.seq rfl ?_ | refine VT.reg rfl ?_ | refine VT.ret rfl ?_)) | (with_reducible refine d_kEr ?_; refine kEr rfl ?_)))
  rfl
theorem m_eqf (a b : List (List Int)) (hl : a.length ≤ 4611686018427387904) (hl' : b.length ≤ 4611686018427387904) (ha : ∀ x, x ∈ a → x.length ≤ 4611686018427387904) (hb : ∀ x, x ∈ b → x.length ≤ 4611686018427387904) : Maps Tryz.prog 137 [.sl (a.map eRow), .sl (b.map eRow), .fn (.func 138) [] []] (wB (decide (a = b))) := by
  refine Maps.vt pok Tryz.f137 (n := 32) (rs := [.tmp 6]) rfl rfl rfl rfl rfl rfl fun g => ?_
  by_cases he : a.length = b.length
  · repeat (any_goals (first | (apply w_any; (first | refine RT.nil ?_ | refine RT.mvA ?_ | refine RT.asA ?_ | refine RT.bnA ?_ | refine RT.clA ?_)) | (apply v_any; (first | refine VT.seq rfl ?_ | refine VT.reg rfl ?_ | refine VT.block rfl ?_ | refine VT.skip rfl ?_ | refine VT.condN rfl rfl (by first | assumption | omega) ?_))))
    refine VT.loop (fun j al H g' => ∃ k : Nat, j = a.length - k ∧ k ≤ a.length ∧ a.take k = b.take k ∧ al = [(1, .sl (b.map eRow)), (2, .fn (.func 138) [] []), (15, .sl (a.map eRow)), (16, wI a.length), (17, wI k)] ∧ H = [] ∧ g' = g) rfl
      ⟨_, _, _, ⟨0, rfl, Nat.zero_le _, rfl, rfl, rfl, rfl⟩, fgA⟩ ?_
    rintro j al H g' ⟨k, rfl, hk, hn, rfl, rfl, rfl⟩
    by_cases hlt : k < a.length
    · have hlt2 : k < b.length := by omega
      have hs := m_same1 a[k] b[k] (ha _ (List.getElem_mem hlt)) (hb _ (List.getElem_mem hlt2))
      by_cases hc : a[k] = b[k]
      · rw [decide_eq_true hc] at hs
        repeat (any_goals (first | (apply w_any; (first | refine RT.nil ?_ | refine RT.mvA ?_ | refine RT.asA ?_ | refine RT.ldA ?_ | refine RT.bnA ?_ | refine RT.callM rfl (hs) rfl rfl ?_ | refine RT.ixA ?_ | refine RT.unA ?_)) | (apply v_any; (first | refine VT.seq rfl ?_ | refine VT.reg rfl ?_ | refine VT.condF rfl rfl ?_ | refine VT.block rfl ?_ | refine VT.skip rfl ?_ | refine VT.condY rfl rfl (by first | assumption | omega) ?_)) | with_reducible (refine kLn ?_)))
        exact ⟨a.length - (k + 1), by omega, _, _, ⟨k + 1, rfl, hlt, by rw [List.take_succ_eq_append_getElem hlt, List.take_succ_eq_append_getElem hlt2, hn, hc], rfl, rfl, rfl⟩, fgA⟩
      · rw [decide_eq_false hc] at hs
        repeat (any_goals (first | (apply w_any; (first | refine RT.nil ?_ | refine RT.mvA ?_ | refine RT.asA ?_ | refine RT.ldA ?_ | refine RT.bnA ?_ | refine RT.callM rfl (hs) rfl rfl ?_ | refine RT.ixA ?_ | refine RT.unA ?_)) | (apply v_any; (first | refine VT.seq rfl ?_ | refine VT.reg rfl ?_ | refine VT.condT rfl rfl ?_ | refine VT.block rfl ?_ | refine VT.skip rfl ?_ | refine VT.ret rfl ?_ | refine VT.condY rfl rfl (by first | assumption | omega) ?_)) | (with_reducible first | refine kSr ?_ | refine kBr ?_ | refine kLr ?_) | (with_reducible refine d_kEr ?_; refine kEr rfl ?_)))
        have : a ≠ b := fun h => hc (by subst h; rfl)
        rw [decide_eq_false this]; rfl
    · repeat (any_goals (first | (apply w_any; (first | refine RT.nil ?_ | refine RT.asA ?_ | refine RT.bnA ?_)) | (apply v_any; (first | refine VT.seq rfl ?_ | refine VT.reg rfl ?_ | refine VT.exit rfl ?_ | refine VT.ret rfl ?_ | refine VT.condN rfl rfl (by first | assumption | omega) ?_)) | (with_reducible refine d_kEr ?_; refine kEr rfl ?_)))
      rw [List.take_of_length_le (by omega), List.take_of_length_le (by omega)] at hn
      rw [decide_eq_true hn]; rfl
  · repeat (any_goals (first | (apply w_any; (first | refine RT.nil ?_ | refine RT.mvA ?_ | refine RT.asA ?_ | refine RT.bnA ?_ | refine RT.clA ?_)) | (apply v_any; (first | refine VT.seq rfl ?_ | refine VT.reg rfl ?_ | refine VT.ret rfl ?_ | refine VT.condY rfl rfl (by first | assumption | omega) ?_)) | with_reducible (refine kSr ?_) | (with_reducible refine d_kEr ?_; refine kEr rfl ?_)))
    have : a ≠ b := fun h => he (by rw [h])
    rw [decide_eq_false this]; rfl
theorem m_sameData (a b : List (List Int)) (hl : a.length ≤ 4611686018427387904) (hl' : b.length ≤ 4611686018427387904) (ha : ∀ x, x ∈ a → x.length ≤ 4611686018427387904) (hb : ∀ x, x ∈ b → x.length ≤ 4611686018427387904) : Maps Tryz.prog 85 [.sl (a.map eRow), .sl (b.map eRow)] (wB (decide (a = b))) := by
  refine Maps.vt pok Tryz.f85 (n := 8) (rs := [.tmp 4]) rfl rfl rfl rfl rfl rfl fun g => ?_
  repeat (any_goals (first | (apply w_any; (first | refine RT.nil ?_ | refine RT.mvA ?_ | refine RT.asA ?_ | refine RT.callM rfl (m_eqf a b hl hl' ha hb) rfl rfl ?_)) | (apply v_any; (first | refine VT.seq rfl ?_ | refine VT.reg rfl ?_ | refine VT.ret rfl ?_)) | (with_reducible refine d_kEr ?_; refine kEr rfl ?_)))
  rfl
end Go.DL
