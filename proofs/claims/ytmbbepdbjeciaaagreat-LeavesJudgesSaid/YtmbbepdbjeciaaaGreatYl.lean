/- The law LeavesMend. -/
import Derived.Test.YtmbbepdbjeciaaaGreatYk
import Derived.Test.YtmbbepdbjeciaaaGreatZh
set_option linter.all false
set_option maxRecDepth 100000
set_option maxHeartbeats 16000000
namespace Go.DL
open Go.Proofs Go

theorem MendS_small (s : Shape) (l : List Leaf) : (MendS s l).1.1.length ≤ 1000 ∧ (∀ x, x ∈ (MendS s l).1.1 → x.length ≤ 1000) ∧ (MendS s l).1.2.length ≤ 1000 := by
  have hz : ∀ e : Int, ((([], []), e) : (List (List Int) × List Int) × Int).1.1.length ≤ 1000 ∧ (∀ x, x ∈ ((([], []), e) : (List (List Int) × List Int) × Int).1.1 → x.length ≤ 1000) ∧ ((([], []), e) : (List (List Int) × List Int) × Int).1.2.length ≤ 1000 := fun e => ⟨Nat.zero_le _, fun x h => (by cases h), Nat.zero_le _⟩
  unfold MendS
  by_cases h0 : CheckLeavesS s l = 0
  · rw [if_pos h0]
    have h40 : CkOk s ∧ l.length ≤ 40 := by
      unfold CheckLeavesS at h0
      rcases CheckS_cases s with ⟨e, hk⟩ | ⟨e, hk⟩
      · rw [if_pos e] at h0
        split at h0
        · cases h0
        · exact ⟨hk, by omega⟩
      · rw [if_neg (by omega), e] at h0; cases h0
    obtain ⟨hck, h40⟩ := h40
    split
    · exact hz _
    · cases hc : colsM s.Data.toNat ((l.length - s.Data.toNat) / 2) l s.Width.toNat with
      | none => exact hz _
      | some cs =>
        dsimp only
        split
        · have h1 := rowsM_dataW (k := s.Data.toNat) (by omega) (colsM_len hc)
          refine ⟨Nat.le_trans h1.1 (by decide), fun x hx => by have := (h1.2 x hx).1; omega, ?_⟩
          have h3 : l.length ≤ 1000 := by omega
          exact Nat.le_trans (DM.wrong_len _ _ _ _) h3
        · exact hz _
  · rw [if_neg h0]; exact hz _
theorem few_small {s : Shape} {l : List Leaf} (h : fewS l = true) (h0 : CheckLeavesS s l = 0) : l.length ≤ 12 := by
  simp only [fewS, Bool.and_eq_true, decide_eq_true_eq] at h
  unfold CheckLeavesS at h0
  rcases CheckS_cases s with ⟨e, hk⟩ | ⟨e, hk⟩
  · rw [if_pos e] at h0
    split at h0
    · cases h0
    · omega
  · rw [if_neg (by omega), e] at h0; cases h0
end Go.DL
