/- Sorting a few lines. -/
import Derived.Test.YtmbbepdbjeciaaaGreatYu1
import Derived.Test.YtmbbepdbjeciaaaGreatZs
import Derived.Test.YtmbbepdbjeciaaaGreatE6
set_option maxRecDepth 100000
set_option maxHeartbeats 16000000
namespace Go.DL
open Go.Proofs Go
def cmpI (a b : Int) : Int := if a < b then -1 else if b < a then 1 else 0
def cmpL (x y : Line) : Int := if cmpI x.Day y.Day = 0 then cmpI x.ID y.ID else cmpI x.Day y.Day
def LLe (x y : Line) : Prop := x.Day < y.Day ∨ x.Day = y.Day ∧ x.ID ≤ y.ID
theorem cmpL_lt (x y : Line) : cmpL x y < 0 ↔ ¬ LLe y x := by
  unfold cmpL cmpI LLe
  split <;> split <;> (try split) <;> omega
theorem LLe.trans {x y z : Line} (h1 : LLe x y) (h2 : LLe y z) : LLe x z := by unfold LLe at *; omega
def LSrt (l : List Line) : Prop := l.Pairwise LLe
abbrev fnL : D := .fn (.func 148) [] []
theorem m_compare (a b : Int) : Maps Tryz.prog 150 [wI a, wI b] (wI (cmpI a b)) := by
  refine Maps.vt pok Tryz.f150 (n := 20) (rs := [.tmp 4]) rfl rfl rfl rfl rfl rfl fun g => ?_
  unfold cmpI
  by_cases h1 : a < b
  · rw [if_pos h1]
    repeat (any_goals (first | (apply w_any; (first | refine RT.nil ?_ | refine RT.mvA ?_ | refine RT.asA ?_ | refine RT.bnA ?_ | (apply w_cl; (first | refine RT.callM rfl (m_nan a) rfl rfl ?_ | refine RT.callM rfl (m_nan b) rfl rfl ?_)))) | (apply v_any; (first | refine VT.seq rfl ?_ | refine VT.reg rfl ?_ | refine VT.condF rfl rfl ?_ | refine VT.skip rfl ?_ | refine VT.ret rfl ?_ | refine VT.condY rfl rfl (by first | assumption | omega) ?_)) | with_reducible (refine kSr ?_) | (with_reducible refine d_kEr ?_; refine kEr rfl ?_)))
    rfl
  · rw [if_neg h1]
    by_cases h2 : b < a
    · rw [if_pos h2]
      repeat (any_goals (first | (apply w_any; (first | refine RT.nil ?_ | refine RT.mvA ?_ | refine RT.asA ?_ | refine RT.bnA ?_ | (apply w_cl; (first | refine RT.callM rfl (m_nan a) rfl rfl ?_ | refine RT.callM rfl (m_nan b) rfl rfl ?_)))) | (apply v_any; (first | refine VT.seq rfl ?_ | refine VT.reg rfl ?_ | refine VT.condF rfl rfl ?_ | refine VT.skip rfl ?_ | refine VT.ret rfl ?_ | refine VT.condY rfl rfl (by first | assumption | omega) ?_ | refine VT.condN rfl rfl (by first | assumption | omega) ?_)) | with_reducible (refine kSr ?_) | (with_reducible refine d_kEr ?_; refine kEr rfl ?_)))
      rfl
    · rw [if_neg h2]
      repeat (any_goals (first | (apply w_any; (first | refine RT.nil ?_ | refine RT.mvA ?_ | refine RT.asA ?_ | refine RT.bnA ?_ | (apply w_cl; (first | refine RT.callM rfl (m_nan a) rfl rfl ?_ | refine RT.callM rfl (m_nan b) rfl rfl ?_)))) | (apply v_any; (first | refine VT.seq rfl ?_ | refine VT.reg rfl ?_ | refine VT.condF rfl rfl ?_ | refine VT.skip rfl ?_ | refine VT.ret rfl ?_ | refine VT.condN rfl rfl (by first | assumption | omega) ?_)) | (with_reducible refine d_kEr ?_; refine kEr rfl ?_)))
      rfl
theorem m_or2 (a b : Int) : Maps Tryz.prog 149 [.sl [eI a, eI b]] (wI (if a = 0 then b else a)) := by
  change Maps Tryz.prog 149 [.sl ([a, b].map eI)] _
  refine Maps.vt pok Tryz.f149 (n := 18) (rs := [.tmp 2]) rfl rfl rfl rfl rfl rfl fun g => ?_
  repeat (any_goals (first | (apply w_any; (first | refine RT.nil ?_ | refine RT.mvA ?_ | refine RT.asA ?_ | refine RT.clA ?_)) | (apply v_any; (first | refine VT.seq rfl ?_ | refine VT.reg rfl ?_ | refine VT.block rfl ?_))))
  refine VT.loop (fun j al H g' => ∃ k : Nat, j = 2 - k ∧ (k = 0 ∨ k ≤ 2 ∧ a = 0 ∧ (k = 2 → b = 0)) ∧ al = [(0, .sl ([a, b].map eI)), (3, wI 0), (6, .sl ([a, b].map eI)), (7, wI 2), (8, wI k)] ∧ H = [] ∧ g' = g) rfl
    ⟨_, _, _, ⟨0, rfl, .inl rfl, rfl, rfl, rfl⟩, fgA⟩ ?_
  rintro j al H g' ⟨k, rfl, hk, rfl, rfl, rfl⟩
  rcases Nat.lt_or_ge k 2 with hlt | hge
  · match k, hk, hlt with
    | 0, _, _ =>
      by_cases h : a = 0
      · repeat (any_goals (first | (apply w_any; (first | refine RT.nil ?_ | refine RT.mvA ?_ | refine RT.asA ?_ | refine RT.ldA ?_ | refine RT.bnA ?_ | refine RT.ixA ?_)) | (apply v_any; (first | refine VT.seq rfl ?_ | refine VT.reg rfl ?_ | refine VT.condT rfl rfl ?_ | refine VT.block rfl ?_ | refine VT.skip rfl ?_ | refine VT.ret rfl ?_ | refine VT.condD rfl rfl (fun hc => ?_) (fun hc => ?_))) | (with_reducible first | refine kSr ?_ | refine kBr ?_ | refine kLn ?_ | refine kLr ?_) | (with_reducible refine d_kEr ?_; refine kEr rfl ?_)))
        · exact absurd h hc
        exact ⟨1, by omega, _, _, ⟨1, rfl, .inr ⟨by omega, h, by omega⟩, rfl, rfl, rfl⟩, fgA⟩
      · rw [if_neg h]
        repeat (any_goals (first | (apply w_any; (first | refine RT.nil ?_ | refine RT.mvA ?_ | refine RT.asA ?_ | refine RT.ldA ?_ | refine RT.bnA ?_ | refine RT.ixA ?_)) | (apply v_any; (first | refine VT.seq rfl ?_ | refine VT.reg rfl ?_ | refine VT.condT rfl rfl ?_ | refine VT.block rfl ?_ | refine VT.skip rfl ?_ | refine VT.ret rfl ?_ | refine VT.condY rfl rfl (by first | assumption | omega) ?_)) | (with_reducible first | refine kSr ?_ | refine kBr ?_ | refine kLr ?_) | (with_reducible refine d_kEr ?_; refine kEr rfl ?_)))
        rfl
    | 1, hk, _ =>
      have h : a = 0 := by omega
      rw [if_pos h]
      by_cases h2 : b = 0
      · repeat (any_goals (first | (apply w_any; (first | refine RT.nil ?_ | refine RT.mvA ?_ | refine RT.asA ?_ | refine RT.ldA ?_ | refine RT.bnA ?_ | refine RT.ixA ?_)) | (apply v_any; (first | refine VT.seq rfl ?_ | refine VT.reg rfl ?_ | refine VT.condT rfl rfl ?_ | refine VT.block rfl ?_ | refine VT.skip rfl ?_ | refine VT.ret rfl ?_ | refine VT.condD rfl rfl (fun hc => ?_) (fun hc => ?_))) | (with_reducible first | refine kSr ?_ | refine kBr ?_ | refine kLn ?_ | refine kLr ?_) | (with_reducible refine d_kEr ?_; refine kEr rfl ?_)))
        · exact absurd h2 hc
        exact ⟨0, by omega, _, _, ⟨2, rfl, .inr ⟨by omega, h, fun _ => h2⟩, rfl, rfl, rfl⟩, fgA⟩
      · repeat (any_goals (first | (apply w_any; (first | refine RT.nil ?_ | refine RT.mvA ?_ | refine RT.asA ?_ | refine RT.ldA ?_ | refine RT.bnA ?_ | refine RT.ixA ?_)) | (apply v_any; (first | refine VT.seq rfl ?_ | refine VT.reg rfl ?_ | refine VT.condT rfl rfl ?_ | refine VT.block rfl ?_ | refine VT.skip rfl ?_ | refine VT.ret rfl ?_ | refine VT.condY rfl rfl (by first | assumption | omega) ?_)) | (with_reducible first | refine kSr ?_ | refine kBr ?_ | refine kLr ?_) | (with_reducible refine d_kEr ?_; refine kEr rfl ?_)))
        rfl
  · obtain rfl : k = 2 := by omega
    have h : a = 0 := by omega
    have h2 : b = 0 := by omega
    subst h; subst h2
    repeat (any_goals (first | (apply w_any; (first | refine RT.nil ?_ | refine RT.mvA ?_ | refine RT.asA ?_ | refine RT.bnA ?_)) | (apply v_any; (first | refine VT.seq rfl ?_ | refine VT.reg rfl ?_ | refine VT.condF rfl rfl ?_ | refine VT.exit rfl ?_ | refine VT.ret rfl ?_)) | (with_reducible refine d_kEr ?_; refine kEr rfl ?_)))
    rfl
theorem m_cmp (x y : Line) : Maps Tryz.prog 148 [.agg (eLine x), .agg (eLine y)] (wI (cmpL x y)) := by
  refine Maps.vt pok Tryz.f148 (n := 17) (rs := [.tmp 4]) rfl rfl rfl rfl rfl rfl fun g => ?_
  repeat (any_goals (first | (apply w_any; (first | refine RT.nil ?_ | refine RT.asA ?_ | refine RT.nwA ?_)) | (apply v_any; (first | refine VT.seq rfl ?_ | refine VT.reg rfl ?_ | refine VT.ret rfl ?_ | refine VT.draw [(1, [0]), (1, [0]), (1, [0]), (1, [0]), (1, [0]), (1, [0]), (1, [0]), (1, [0]), (1, [0]), (1, [0]), (0, [0]), (1, []), (1, [])] 2 mixedOk rfl (by decide +kernel) (by decide +kernel) (by decide +kernel) (by first | (simp only [nrm]; rfl) | (simp only [nrm, Nat.reduceAdd, Nat.zero_add]; rfl) | rfl) (by first | (simp only [nrm]; rfl) | (simp only [nrm, Nat.reduceAdd, Nat.zero_add]; rfl) | rfl) ?_)) | (apply q_any; (first | refine PT.done (by first | (simp only [nrm]; rfl) | (simp only [nrm, Nat.reduceAdd, Nat.zero_add]; rfl) | rfl) ?_ | refine PT.asA ?_ | refine PT.ldA ?_ | refine PT.faA ?_ | (apply q_cl; (first | refine PT.callG rfl (m_compare _ _) rfl rfl ?_ | refine PT.callG rfl (m_or2 _ _) rfl rfl ?_)) | refine PT.new rfl (f_bslW2 rfl rfl rfl rfl) (by first | (simp only [nrm]; rfl) | (simp only [nrm, Nat.reduceAdd, Nat.zero_add]; rfl) | rfl) ?_)) | (with_reducible refine d_kEr ?_; refine kEr rfl ?_)))
  rfl
end Go.DL
