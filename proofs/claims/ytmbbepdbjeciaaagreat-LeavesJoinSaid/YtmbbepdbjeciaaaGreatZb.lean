/- The functions of leaves/words.go and their likes in the reference: values, products, polynomials through points. -/
import Derived.Test.YtmbbepdbjeciaaaGreatZa
set_option maxRecDepth 100000
set_option maxHeartbeats 16000000
namespace Go.DL
open Go.Proofs Go

def allW (l : List Int) : Prop := ∀ x, x ∈ l → W x
theorem allW.get {l : List Int} (h : allW l) {k : Nat} (hk : k < l.length) : 0 ≤ l[k] ∧ l[k] ≤ 65520 := h _ (List.getElem_mem hk)
/-! ### the value of a polynomial -/
theorem allW_of {c : List Int} (h : c.all (fun a => decide (W a)) = true) : allW c := fun x hx => by
  have := List.all_eq_true.1 h x hx; simpa using this
theorem m_rwords (c : List Int) (hl : c.length ≤ 4611686018427387904) : Maps Tryz.prog 127 [.sl (c.map eI)] (wB (c.all fun a => decide (W a))) := by
  refine Maps.vt pok Tryz.f127 (n := 16) (rs := [.tmp 2]) rfl rfl rfl rfl rfl rfl fun g => ?_
  repeat (any_goals (first | (refine d_RT ?_; (first | refine RT.nil ?_ | refine RT.asA ?_)) | (refine d_VT ?_; (first | refine VT.seq rfl ?_ | refine VT.reg rfl ?_ | refine VT.block rfl ?_))))
  refine VT.loop (fun j a H g' => ∃ k : Nat, j = c.length - k ∧ k ≤ c.length ∧ (c.take k).all (fun a => decide (W a)) = true ∧ a = [(0, .sl (c.map eI)), (3, wI k)] ∧ H = [] ∧ g' = g) rfl
    ⟨_, _, _, ⟨0, rfl, Nat.zero_le _, rfl, rfl, rfl, rfl⟩, fgA⟩ ?_
  rintro j a H g' ⟨k, rfl, hk, hn, rfl, rfl, rfl⟩
  by_cases hlt : k < c.length
  · repeat (any_goals (first | (refine d_RT ?_; (first | refine RT.nil ?_ | refine RT.mvA ?_ | refine RT.asA ?_ | refine RT.ldA ?_ | refine RT.bnA ?_ | (refine d_call ?_; (first | refine RT.callM rfl (m_rword _) rfl rfl ?_ | refine RT.clA ?_)) | refine RT.ixA ?_ | refine RT.unA ?_)) | (refine d_VT ?_; (first | refine VT.seq rfl ?_ | refine VT.reg rfl ?_ | refine VT.condY rfl rfl (by first | assumption | omega) ?_ | refine VT.condD rfl rfl (fun hc => ?_) (fun hc => ?_) | refine VT.block rfl ?_ | refine VT.skip rfl ?_ | refine VT.ret rfl ?_)) | (with_reducible first | refine kSr ?_ | refine kBr ?_ | refine kLn ?_ | refine kLr ?_) | (with_reducible refine d_kEr ?_; refine kEr rfl ?_)))
    · have : c.all (fun a => decide (W a)) = false := List.all_eq_false.2 ⟨c[k], List.getElem_mem hlt, by simpa using hc⟩
      rw [this]; rfl
    · refine ⟨c.length - (k + 1), by omega, _, _, ⟨k + 1, rfl, hlt, ?_, rfl, rfl, rfl⟩, fgA⟩
      rw [List.take_succ_eq_append_getElem hlt, List.all_append, hn]
      simpa using hc
  · repeat (any_goals (first | (refine d_RT ?_; (first | refine RT.nil ?_ | refine RT.mvA ?_ | refine RT.asA ?_ | refine RT.bnA ?_ | refine RT.clA ?_)) | (refine d_VT ?_; (first | refine VT.seq rfl ?_ | refine VT.reg rfl ?_ | refine VT.condN rfl rfl (by first | assumption | omega) ?_ | refine VT.exit rfl ?_ | refine VT.ret rfl ?_)) | (with_reducible refine d_kEr ?_; refine kEr rfl ?_)))
    rw [List.take_of_length_le (by omega)] at hn
    rw [hn]; rfl
/-! ### the reference's inverse: Euclid's algorithm -/
/-! ### lists that are equal -/
theorem m_same (a b : List Int) (hl : a.length ≤ 4611686018427387904) (hl' : b.length ≤ 4611686018427387904) : Maps Tryz.prog 30 [.sl (a.map eI), .sl (b.map eI)] (wB (decide (a = b))) := by
  refine Maps.vt pok Tryz.f30 (n := 26) (rs := [.tmp 4]) rfl rfl rfl rfl rfl rfl fun g => ?_
  by_cases he : a.length = b.length
  · repeat (any_goals (first | (refine d_RT ?_; (first | refine RT.nil ?_ | refine RT.mvA ?_ | refine RT.asA ?_ | refine RT.bnA ?_ | refine RT.clA ?_)) | (refine d_VT ?_; (first | refine VT.seq rfl ?_ | refine VT.reg rfl ?_ | refine VT.condN rfl rfl (by first | assumption | omega) ?_ | refine VT.block rfl ?_ | refine VT.skip rfl ?_))))
    refine VT.loop (fun j al H g' => ∃ k : Nat, j = a.length - k ∧ k ≤ a.length ∧ a.take k = b.take k ∧ al = [(0, .sl (a.map eI)), (1, .sl (b.map eI)), (5, wI k)] ∧ H = [] ∧ g' = g) rfl
      ⟨_, _, _, ⟨0, rfl, Nat.zero_le _, rfl, rfl, rfl, rfl⟩, fgA⟩ ?_
    rintro j al H g' ⟨k, rfl, hk, hn, rfl, rfl, rfl⟩
    by_cases hlt : k < a.length
    · repeat (any_goals (first | (refine d_RT ?_; (first | refine RT.nil ?_ | refine RT.mvA ?_ | refine RT.asA ?_ | refine RT.bnA ?_ | refine RT.clA ?_)) | (refine d_VT ?_; (first | refine VT.seq rfl ?_ | refine VT.reg rfl ?_ | refine VT.draw [(0, []), (0, []), (0, []), (0, []), (0, []), (0, []), (0, []), (0, []), (0, [])] 1 mixedOk rfl (by decide +kernel) (by decide +kernel) (by decide +kernel) (by first | (simp only [nrm]; rfl) | (simp only [nrm, Nat.reduceAdd, Nat.zero_add]; rfl) | rfl) (by first | (simp only [nrm]; rfl) | (simp only [nrm, Nat.reduceAdd, Nat.zero_add]; rfl) | rfl) ?_ | refine VT.condY rfl rfl (by first | assumption | omega) ?_ | refine VT.condD rfl rfl (fun hc => ?_) (fun hc => ?_) | refine VT.block rfl ?_ | refine VT.skip rfl ?_ | refine VT.ret rfl ?_)) | (refine d_PT ?_; (first | refine PT.done (by first | (simp only [nrm]; rfl) | (simp only [nrm, Nat.reduceAdd, Nat.zero_add]; rfl) | rfl) ?_ | refine PT.mvA ?_ | refine PT.ldA ?_ | refine PT.bnA ?_ | refine PT.ixA ?_)) | (with_reducible first | refine kSr ?_ | refine kBr ?_ | refine kLn ?_ | refine kLr ?_) | (with_reducible refine d_kEr ?_; refine kEr rfl ?_)))
      · have : a ≠ b := fun h => hc (by subst h; rfl)
        rw [decide_eq_false this]; rfl
      · exact ⟨a.length - (k + 1), by omega, _, _, ⟨k + 1, rfl, hlt, by rw [List.take_succ_eq_append_getElem hlt, List.take_succ_eq_append_getElem (show k < b.length by omega), hn, Classical.not_not.1 hc], rfl, rfl, rfl⟩, fgA⟩
    · repeat (any_goals (first | (refine d_RT ?_; (first | refine RT.nil ?_ | refine RT.mvA ?_ | refine RT.asA ?_ | refine RT.bnA ?_ | refine RT.clA ?_)) | (refine d_VT ?_; (first | refine VT.seq rfl ?_ | refine VT.reg rfl ?_ | refine VT.condN rfl rfl (by first | assumption | omega) ?_ | refine VT.exit rfl ?_ | refine VT.ret rfl ?_)) | (with_reducible refine d_kEr ?_; refine kEr rfl ?_)))
      rw [List.take_of_length_le (by omega), List.take_of_length_le (by omega)] at hn
      rw [decide_eq_true hn]; rfl
  · repeat (any_goals (first | (refine d_RT ?_; (first | refine RT.nil ?_ | refine RT.mvA ?_ | refine RT.asA ?_ | refine RT.bnA ?_ | refine RT.clA ?_)) | (refine d_VT ?_; (first | refine VT.seq rfl ?_ | refine VT.reg rfl ?_ | refine VT.condY rfl rfl (by first | assumption | omega) ?_ | refine VT.ret rfl ?_)) | with_reducible (refine kSr ?_) | (with_reducible refine d_kEr ?_; refine kEr rfl ?_)))
    have : a ≠ b := fun h => he (by rw [h])
    rw [decide_eq_false this]; rfl
end Go.DL
