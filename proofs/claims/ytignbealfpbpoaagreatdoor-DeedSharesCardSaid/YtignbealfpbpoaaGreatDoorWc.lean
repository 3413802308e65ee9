/- Fractions: what the functions of both compute. -/
import Derived.Test.YtignbealfpbpoaaGreatDoorWa
import Derived.Test.YtignbealfpbpoaaGreatDoorWb
set_option linter.all false
set_option maxRecDepth 100000
set_option maxHeartbeats 16000000
namespace Go.DL
open Go.Proofs Go

abbrev dR (r : Int × Int) : D := .agg [wI r.1, wI r.2]
theorem wB_eq {p : Prop} [Decidable p] {b : Bool} (h : b = true ↔ p) : wB b = wB (decide p) := by
  have : b = decide p := by rw [Bool.eq_iff_iff, h, decide_eq_true_eq]
  rw [this]
theorem mulS {a b : Int} (h1 : 0 ≤ a ∧ a ≤ 16777216) (h2 : 0 ≤ b ∧ b ≤ 16777216) : 0 ≤ a * b ∧ a * b ≤ 281474976710656 :=
  ⟨Int.mul_nonneg h1.1 h2.1, Int.le_trans (Int.mul_le_mul h1.2 h2.2 h2.1 (by decide)) (by decide)⟩

theorem m_within (a b c : Int) : Maps Tryz.prog 92 [wI a, wI b, wI c] (wB (decide (b ≤ a ∧ a ≤ c))) := by
  refine Maps.vt pok Tryz.f92 (n := 15) (rs := [.tmp 6]) rfl rfl rfl rfl rfl rfl fun g => ?_
  repeat (any_goals (first
      | (apply w_any; (first | (apply w_nil; (first | refine RT.nil ?_)) | (apply w_g; (first | refine RT.gy rfl ?_ | refine RT.gn rfl rfl ?_ | refine RT.gu rfl ?_ | refine RT.gcY rfl rfl rfl (by first | assumption | omega) ?_ | refine RT.gcN rfl rfl rfl (by first | assumption | omega) ?_ | refine RT.gc rfl rfl rfl (fun hc => ?_) (fun hc => ?_) | refine RT.gb rfl rfl rfl (fun hc => ?_) (fun hc => ?_))) | (apply w_mv; (first | refine RT.mvA ?_ | refine RT.mvM ?_)) | (apply w_as; (first | refine RT.asA ?_ | refine RT.asM ?_)) | (apply w_bn; (first | refine RT.bnA ?_)) | (apply w_cl; (first | refine RT.clA ?_ | refine RT.lnH ?_)) | (apply w_pk; (first | refine RT.pkA ?_))))
      | (apply v_any; (first | refine VT.seq rfl ?_ | refine VT.reg rfl ?_ | refine VT.condT rfl rfl ?_ | refine VT.condF rfl rfl ?_ | refine VT.block rfl ?_ | refine VT.skip rfl ?_ | refine VT.label rfl ?_ | refine VT.scope rfl ?_ | refine VT.exit rfl ?_ | refine VT.ret rfl ?_ | refine VT.condY rfl rfl (by first | assumption | omega) ?_ | refine VT.condN rfl rfl (by first | assumption | omega) ?_ | refine VT.condD rfl rfl (fun hc => ?_) (fun hc => ?_) | refine VT.cond rfl rfl (fun hc => ?_) (fun hc => ?_)))
      | (with_reducible first | refine kSn ?_ | refine kSr ?_ | refine kBn ?_ | refine kBr ?_ | refine kSe ?_ | refine kBe ?_ | refine kLn ?_ | refine kCn ?_ | refine kCr ?_ | refine kCe ?_ | refine kLr ?_ | refine kLe ?_)
      | with_reducible (refine kBx (by decide) ?_)
      | (with_reducible refine d_kEr ?_; refine kEr rfl ?_)
      | (with_reducible refine d_kEn ?_; refine kEn rfl ?_)))
  all_goals (refine wB_eq ?_; simp; omega)
theorem m_gcd (a b : Int) (ha : 0 ≤ a) (hb : 0 ≤ b) (h63 : a ≤ 9223372036854775807) (h63' : b ≤ 9223372036854775807) : Maps Tryz.prog 180 [wI a, wI b] (wI (gcdS a b)) := by
  refine Maps.vt pok Tryz.f180 (n := 14) (rs := [.tmp 4]) rfl rfl rfl rfl rfl rfl fun g => ?_
  repeat (any_goals (first
      | (apply w_any; (first | (apply w_nil; (first | refine RT.nil ?_)) | (apply w_mv; (first | refine RT.mvA ?_ | refine RT.mvM ?_)) | (apply w_as; (first | refine RT.asA ?_ | refine RT.asM ?_)) | (apply w_bn; (first | refine RT.bnA ?_)) | (apply w_cl; (first | refine RT.clA ?_ | refine RT.lnH ?_))))
      | (apply v_any; (first | refine VT.seq rfl ?_ | refine VT.reg rfl ?_ | refine VT.condT rfl rfl ?_ | refine VT.condF rfl rfl ?_ | refine VT.block rfl ?_ | refine VT.skip rfl ?_ | refine VT.label rfl ?_ | refine VT.scope rfl ?_ | refine VT.exit rfl ?_ | refine VT.ret rfl ?_ | refine VT.condY rfl rfl (by first | assumption | omega) ?_ | refine VT.condN rfl rfl (by first | assumption | omega) ?_ | refine VT.condD rfl rfl (fun hc => ?_) (fun hc => ?_) | refine VT.cond rfl rfl (fun hc => ?_) (fun hc => ?_)))
      | (with_reducible first | refine kSn ?_ | refine kSr ?_ | refine kBn ?_ | refine kBr ?_ | refine kSe ?_ | refine kBe ?_ | refine kLn ?_ | refine kCn ?_ | refine kCr ?_ | refine kCe ?_ | refine kLr ?_ | refine kLe ?_)
      | with_reducible (refine kBx (by decide) ?_)
      | (with_reducible refine d_kEr ?_; refine kEr rfl ?_)
      | (with_reducible refine d_kEn ?_; refine kEn rfl ?_)))
  refine VT.loop (fun j al H g' => ∃ x y : Int, j = y.toNat ∧ 0 ≤ x ∧ 0 ≤ y ∧ x ≤ 9223372036854775807 ∧ y ≤ 9223372036854775807 ∧ gcdS x y = gcdS a b ∧ al = [(0, wI x), (1, wI y), (4, wI 0)] ∧ H = [] ∧ g' = g) rfl
    ⟨_, _, _, ⟨a, b, rfl, ha, hb, h63, h63', rfl, rfl, rfl, rfl⟩, fgA⟩ ?_
  rintro j al H g' ⟨x, y, rfl, hx, hy, hx63, hy63, hg, rfl, rfl, rfl⟩
  by_cases h0 : y = 0
  · subst h0
    repeat (any_goals (first
        | (apply w_any; (first | (apply w_nil; (first | refine RT.nil ?_)) | (apply w_mv; (first | refine RT.mvA ?_ | refine RT.mvM ?_)) | (apply w_as; (first | refine RT.asA ?_ | refine RT.asM ?_)) | (apply w_bn; (first | refine RT.bnA ?_)) | (apply w_cl; (first | refine RT.clA ?_ | refine RT.lnH ?_))))
        | (apply v_any; (first | refine VT.seq rfl ?_ | refine VT.reg rfl ?_ | refine VT.condT rfl rfl ?_ | refine VT.condF rfl rfl ?_ | refine VT.block rfl ?_ | refine VT.skip rfl ?_ | refine VT.label rfl ?_ | refine VT.scope rfl ?_ | refine VT.exit rfl ?_ | refine VT.ret rfl ?_ | refine VT.condY rfl rfl (by first | assumption | omega) ?_ | refine VT.condN rfl rfl (by first | assumption | omega) ?_ | refine VT.condD rfl rfl (fun hc => ?_) (fun hc => ?_) | refine VT.cond rfl rfl (fun hc => ?_) (fun hc => ?_)))
        | (with_reducible first | refine kSn ?_ | refine kSr ?_ | refine kBn ?_ | refine kBr ?_ | refine kSe ?_ | refine kBe ?_ | refine kLn ?_ | refine kCn ?_ | refine kCr ?_ | refine kCe ?_ | refine kLr ?_ | refine kLe ?_)
        | with_reducible (refine kBx (by decide) ?_)
        | (with_reducible refine d_kEr ?_; refine kEr rfl ?_)
        | (with_reducible refine d_kEn ?_; refine kEn rfl ?_)))
    rw [← hg, gcdS_zero hx]
    rfl
  · have hm1 := Int.emod_nonneg x h0
    have hm2 := Int.emod_lt_of_pos x (show 0 < y by omega)
    repeat (any_goals (first
        | (apply w_any; (first | (apply w_nil; (first | refine RT.nil ?_)) | (apply w_mv; (first | refine RT.mvA ?_ | refine RT.mvM ?_)) | (apply w_as; (first | refine RT.asA ?_ | refine RT.asM ?_)) | (apply w_bn; (first | refine RT.bnA ?_)) | (apply w_cl; (first | refine RT.clA ?_ | refine RT.lnH ?_))))
        | (apply v_any; (first | refine VT.seq rfl ?_ | refine VT.reg rfl ?_ | refine VT.condT rfl rfl ?_ | refine VT.condF rfl rfl ?_ | refine VT.block rfl ?_ | refine VT.skip rfl ?_ | refine VT.label rfl ?_ | refine VT.scope rfl ?_ | refine VT.exit rfl ?_ | refine VT.ret rfl ?_ | refine VT.condY rfl rfl (by first | assumption | omega) ?_ | refine VT.condN rfl rfl (by first | assumption | omega) ?_ | refine VT.condD rfl rfl (fun hc => ?_) (fun hc => ?_) | refine VT.cond rfl rfl (fun hc => ?_) (fun hc => ?_)))
        | (with_reducible first | refine kSn ?_ | refine kSr ?_ | refine kBn ?_ | refine kBr ?_ | refine kSe ?_ | refine kBe ?_ | refine kLn ?_ | refine kCn ?_ | refine kCr ?_ | refine kCe ?_ | refine kLr ?_ | refine kLe ?_)
        | with_reducible (refine kBx (by decide) ?_)
        | (with_reducible refine d_kEr ?_; refine kEr rfl ?_)
        | (with_reducible refine d_kEn ?_; refine kEn rfl ?_)))
    exact ⟨(x % y).toNat, by omega, _, _, ⟨y, x % y, rfl, hy, hm1, hy63, by omega, (gcdS_step hx (by omega)).trans hg, rfl, rfl, rfl⟩, fgA⟩
theorem m_ratio (a b : Int) (ha : 0 ≤ a) (hb : 1 ≤ b) (h63 : a ≤ 9223372036854775807) (h63' : b ≤ 9223372036854775807) : Maps Tryz.prog 127 [wI a, wI b] (dR (ratioS a b)) := by
  refine Maps.vt pok Tryz.f127 (n := 22) (rs := [.cell 4 38]) rfl rfl rfl rfl rfl rfl fun g => ?_
  have hp := gcdS_pos (a := a) hb
  repeat (any_goals (first
      | (apply w_any; (first | (apply w_nil; (first | refine RT.nil ?_)) | (apply w_mv; (first | refine RT.mvA ?_ | refine RT.mvM ?_)) | (apply w_as; (first | refine RT.asA ?_ | refine RT.asM ?_)) | (apply w_bn; (first | refine RT.bnA ?_)) | (apply w_cl; (first | refine RT.clA ?_ | refine RT.lnH ?_)) | (apply w_st; (first | refine RT.stA ?_ | refine RT.stH ?_)) | (apply w_al; (first | refine RT.nwA ?_)) | (apply w_bd; (first | refine RT.msA ?_))))
      | (apply v_any; (first | refine VT.seq rfl ?_ | refine VT.reg rfl ?_ | refine VT.condT rfl rfl ?_ | refine VT.condF rfl rfl ?_ | refine VT.block rfl ?_ | refine VT.skip rfl ?_ | refine VT.label rfl ?_ | refine VT.scope rfl ?_ | refine VT.exit rfl ?_ | refine VT.ret rfl ?_ | refine VT.draw [(0, []), (0, []), (0, []), (0, []), (0, []), (0, [])] 1 mixedOk rfl (by decide +kernel) (by decide +kernel) (by decide +kernel) (by first | (simp only [nrm]; rfl) | (simp only [nrm, Nat.reduceAdd, Nat.zero_add]; rfl) | rfl) (by first | (simp only [nrm]; rfl) | (simp only [nrm, Nat.reduceAdd, Nat.zero_add]; rfl) | rfl) ?_ | refine VT.draw [(1, [0]), (1, [0]), (1, [0]), (1, [0]), (1, [0]), (1, [0]), (1, [0]), (0, [0])] 2 mixedOk rfl (by decide +kernel) (by decide +kernel) (by decide +kernel) (by first | (simp only [nrm]; rfl) | (simp only [nrm, Nat.reduceAdd, Nat.zero_add]; rfl) | rfl) (by first | (simp only [nrm]; rfl) | (simp only [nrm, Nat.reduceAdd, Nat.zero_add]; rfl) | rfl) ?_ | refine VT.condY rfl rfl (by first | assumption | omega) ?_ | refine VT.condN rfl rfl (by first | assumption | omega) ?_ | refine VT.condD rfl rfl (fun hc => ?_) (fun hc => ?_) | refine VT.cond rfl rfl (fun hc => ?_) (fun hc => ?_)))
      | (apply q_any; (first | (apply q_nil; (first | refine PT.done (by first | (simp only [nrm]; rfl) | (simp only [nrm, Nat.reduceAdd, Nat.zero_add]; rfl) | rfl) ?_)) | (apply q_mv; (first | refine PT.mvA ?_)) | (apply q_as; (first | refine PT.asA ?_)) | (apply q_bn; (first | refine PT.bnA ?_)) | (apply q_cl; (first | refine PT.clA ?_)) | (apply q_st; (first | refine PT.stA ?_)) | (apply q_al; (first | refine PT.nwA ?_)) | (apply q_bd; (first | refine PT.msA ?_))))
      | (with_reducible first | refine kSn ?_ | refine kSr ?_ | refine kBn ?_ | refine kBr ?_ | refine kSe ?_ | refine kBe ?_ | refine kLn ?_ | refine kCn ?_ | refine kCr ?_ | refine kCe ?_ | refine kLr ?_ | refine kLe ?_)
      | with_reducible (refine kBx (by decide) ?_)
      | (with_reducible refine d_kEr ?_; refine kEr rfl ?_)
      | (with_reducible refine d_kEn ?_; refine kEn rfl ?_)))
  refine VT.loop (fun j al H g' => ∃ x y : Int, j = y.toNat ∧ 0 ≤ x ∧ 0 ≤ y ∧ x ≤ 9223372036854775807 ∧ y ≤ 9223372036854775807 ∧ gcdS x y = gcdS a b ∧ al = [(0, wI a), (1, wI b), (4, .mp 0 0 0), (5, wI x), (6, wI y)] ∧ H = [.live 2 [[wI 0, wI 0]]] ∧ g' = g) rfl
    ⟨_, _, _, ⟨a, b, rfl, ha, by omega, h63, h63', rfl, rfl, rfl, rfl⟩, fgA⟩ ?_
  rintro j al H g' ⟨x, y, rfl, hx, hy, hx63, hy63, hg, rfl, rfl, rfl⟩
  by_cases h0 : y = 0
  · subst h0
    have hx' : x = gcdS a b := by rw [← hg, gcdS_zero hx]
    subst hx'
    repeat (any_goals (first
        | (apply w_any; (first | (apply w_nil; (first | refine RT.nil ?_)) | (apply w_mv; (first | refine RT.mvA ?_ | refine RT.mvM ?_)) | (apply w_as; (first | refine RT.asA ?_ | refine RT.asM ?_)) | (apply w_bn; (first | refine RT.bnA ?_)) | (apply w_cl; (first | refine RT.clA ?_ | refine RT.lnH ?_)) | (apply w_st; (first | refine RT.stA ?_ | refine RT.stH ?_)) | (apply w_al; (first | refine RT.nwA ?_)) | (apply w_bd; (first | refine RT.msA ?_))))
        | (apply v_any; (first | refine VT.seq rfl ?_ | refine VT.reg rfl ?_ | refine VT.condT rfl rfl ?_ | refine VT.condF rfl rfl ?_ | refine VT.block rfl ?_ | refine VT.skip rfl ?_ | refine VT.label rfl ?_ | refine VT.scope rfl ?_ | refine VT.exit rfl ?_ | refine VT.ret rfl ?_ | refine VT.draw [(0, []), (0, []), (0, []), (0, []), (0, []), (0, [])] 1 mixedOk rfl (by decide +kernel) (by decide +kernel) (by decide +kernel) (by first | (simp only [nrm]; rfl) | (simp only [nrm, Nat.reduceAdd, Nat.zero_add]; rfl) | rfl) (by first | (simp only [nrm]; rfl) | (simp only [nrm, Nat.reduceAdd, Nat.zero_add]; rfl) | rfl) ?_ | refine VT.draw [(1, [0]), (1, [0]), (1, [0]), (1, [0]), (1, [0]), (1, [0]), (1, [0]), (0, [0])] 2 mixedOk rfl (by decide +kernel) (by decide +kernel) (by decide +kernel) (by first | (simp only [nrm]; rfl) | (simp only [nrm, Nat.reduceAdd, Nat.zero_add]; rfl) | rfl) (by first | (simp only [nrm]; rfl) | (simp only [nrm, Nat.reduceAdd, Nat.zero_add]; rfl) | rfl) ?_ | refine VT.condY rfl rfl (by first | assumption | omega) ?_ | refine VT.condN rfl rfl (by first | assumption | omega) ?_ | refine VT.condD rfl rfl (fun hc => ?_) (fun hc => ?_) | refine VT.cond rfl rfl (fun hc => ?_) (fun hc => ?_)))
        | (apply q_any; (first | (apply q_nil; (first | refine PT.done (by first | (simp only [nrm]; rfl) | (simp only [nrm, Nat.reduceAdd, Nat.zero_add]; rfl) | rfl) ?_)) | (apply q_mv; (first | refine PT.mvA ?_)) | (apply q_as; (first | refine PT.asA ?_)) | (apply q_bn; (first | refine PT.bnA ?_)) | (apply q_cl; (first | refine PT.clA ?_)) | (apply q_st; (first | refine PT.stA ?_)) | (apply q_al; (first | refine PT.nwA ?_)) | (apply q_bd; (first | refine PT.msA ?_))))
        | (with_reducible first | refine kSn ?_ | refine kSr ?_ | refine kBn ?_ | refine kBr ?_ | refine kSe ?_ | refine kBe ?_ | refine kLn ?_ | refine kCn ?_ | refine kCr ?_ | refine kCe ?_ | refine kLr ?_ | refine kLe ?_)
        | with_reducible (refine kBx (by decide) ?_)
        | (with_reducible refine d_kEr ?_; refine kEr rfl ?_)
        | (with_reducible refine d_kEn ?_; refine kEn rfl ?_)))
    rfl
  · have hm1 := Int.emod_nonneg x h0
    have hm2 := Int.emod_lt_of_pos x (show 0 < y by omega)
    repeat (any_goals (first
        | (apply w_any; (first | (apply w_nil; (first | refine RT.nil ?_)) | (apply w_mv; (first | refine RT.mvA ?_ | refine RT.mvM ?_)) | (apply w_as; (first | refine RT.asA ?_ | refine RT.asM ?_)) | (apply w_bn; (first | refine RT.bnA ?_)) | (apply w_cl; (first | refine RT.clA ?_ | refine RT.lnH ?_)) | (apply w_st; (first | refine RT.stA ?_ | refine RT.stH ?_)) | (apply w_al; (first | refine RT.nwA ?_)) | (apply w_bd; (first | refine RT.msA ?_))))
        | (apply v_any; (first | refine VT.seq rfl ?_ | refine VT.reg rfl ?_ | refine VT.condT rfl rfl ?_ | refine VT.condF rfl rfl ?_ | refine VT.block rfl ?_ | refine VT.skip rfl ?_ | refine VT.label rfl ?_ | refine VT.scope rfl ?_ | refine VT.exit rfl ?_ | refine VT.ret rfl ?_ | refine VT.draw [(0, []), (0, []), (0, []), (0, []), (0, []), (0, [])] 1 mixedOk rfl (by decide +kernel) (by decide +kernel) (by decide +kernel) (by first | (simp only [nrm]; rfl) | (simp only [nrm, Nat.reduceAdd, Nat.zero_add]; rfl) | rfl) (by first | (simp only [nrm]; rfl) | (simp only [nrm, Nat.reduceAdd, Nat.zero_add]; rfl) | rfl) ?_ | refine VT.draw [(1, [0]), (1, [0]), (1, [0]), (1, [0]), (1, [0]), (1, [0]), (1, [0]), (0, [0])] 2 mixedOk rfl (by decide +kernel) (by decide +kernel) (by decide +kernel) (by first | (simp only [nrm]; rfl) | (simp only [nrm, Nat.reduceAdd, Nat.zero_add]; rfl) | rfl) (by first | (simp only [nrm]; rfl) | (simp only [nrm, Nat.reduceAdd, Nat.zero_add]; rfl) | rfl) ?_ | refine VT.condY rfl rfl (by first | assumption | omega) ?_ | refine VT.condN rfl rfl (by first | assumption | omega) ?_ | refine VT.condD rfl rfl (fun hc => ?_) (fun hc => ?_) | refine VT.cond rfl rfl (fun hc => ?_) (fun hc => ?_)))
        | (apply q_any; (first | (apply q_nil; (first | refine PT.done (by first | (simp only [nrm]; rfl) | (simp only [nrm, Nat.reduceAdd, Nat.zero_add]; rfl) | rfl) ?_)) | (apply q_mv; (first | refine PT.mvA ?_)) | (apply q_as; (first | refine PT.asA ?_)) | (apply q_bn; (first | refine PT.bnA ?_)) | (apply q_cl; (first | refine PT.clA ?_)) | (apply q_st; (first | refine PT.stA ?_)) | (apply q_al; (first | refine PT.nwA ?_)) | (apply q_bd; (first | refine PT.msA ?_))))
        | (with_reducible first | refine kSn ?_ | refine kSr ?_ | refine kBn ?_ | refine kBr ?_ | refine kSe ?_ | refine kBe ?_ | refine kLn ?_ | refine kCn ?_ | refine kCr ?_ | refine kCe ?_ | refine kLr ?_ | refine kLe ?_)
        | with_reducible (refine kBx (by decide) ?_)
        | (with_reducible refine d_kEr ?_; refine kEr rfl ?_)
        | (with_reducible refine d_kEn ?_; refine kEn rfl ?_)))
    exact ⟨(x % y).toNat, by omega, _, _, ⟨y, x % y, rfl, hy, hm1, hy63, by omega, (gcdS_step hx (by omega)).trans hg, rfl, rfl, rfl⟩, fgA⟩
theorem m_Rratio (a b : Int) (ha : 0 ≤ a) (hb : 1 ≤ b) (h63 : a ≤ 9223372036854775807) (h63' : b ≤ 9223372036854775807) : Maps Tryz.prog 129 [wI a, wI b] (dR (ratioS a b)) := by
  refine Maps.vt pok Tryz.f129 (n := 16) (rs := [.cell 4 38]) rfl rfl rfl rfl rfl rfl fun g => ?_
  have hp := gcdS_pos (a := a) hb
  repeat (any_goals (first
      | (apply w_any; (first | (apply w_nil; (first | refine RT.nil ?_)) | (apply w_mv; (first | refine RT.mvA ?_ | refine RT.mvM ?_)) | (apply w_as; (first | refine RT.asA ?_ | refine RT.asM ?_)) | (apply w_bn; (first | refine RT.bnA ?_)) | (apply w_cl; (first | (first | refine RT.callM rfl (m_gcd a b ha (by omega) h63 h63') rfl rfl ?_ | refine RT.callM rfl (m_gcd a b ha (by omega) h63 h63') (by first | (simp only [nrm]; rfl) | (simp only [nrm, Nat.reduceAdd, Nat.zero_add]; rfl) | rfl) rfl ?_) | refine RT.clA ?_ | refine RT.lnH ?_)) | (apply w_st; (first | refine RT.stA ?_ | refine RT.stH ?_)) | (apply w_al; (first | refine RT.nwA ?_)) | (apply w_bd; (first | refine RT.msA ?_))))
      | (apply v_any; (first | refine VT.seq rfl ?_ | refine VT.reg rfl ?_ | refine VT.condT rfl rfl ?_ | refine VT.condF rfl rfl ?_ | refine VT.block rfl ?_ | refine VT.skip rfl ?_ | refine VT.label rfl ?_ | refine VT.scope rfl ?_ | refine VT.exit rfl ?_ | refine VT.ret rfl ?_ | refine VT.draw [(1, [0]), (1, [0]), (1, [0]), (1, [0]), (1, [0]), (1, [0]), (1, [0]), (0, [0])] 2 mixedOk rfl (by decide +kernel) (by decide +kernel) (by decide +kernel) (by first | (simp only [nrm]; rfl) | (simp only [nrm, Nat.reduceAdd, Nat.zero_add]; rfl) | rfl) (by first | (simp only [nrm]; rfl) | (simp only [nrm, Nat.reduceAdd, Nat.zero_add]; rfl) | rfl) ?_ | refine VT.condY rfl rfl (by first | assumption | omega) ?_ | refine VT.condN rfl rfl (by first | assumption | omega) ?_ | refine VT.condD rfl rfl (fun hc => ?_) (fun hc => ?_) | refine VT.cond rfl rfl (fun hc => ?_) (fun hc => ?_)))
      | (apply q_any; (first | (apply q_nil; (first | refine PT.done (by first | (simp only [nrm]; rfl) | (simp only [nrm, Nat.reduceAdd, Nat.zero_add]; rfl) | rfl) ?_)) | (apply q_mv; (first | refine PT.mvA ?_)) | (apply q_as; (first | refine PT.asA ?_)) | (apply q_bn; (first | refine PT.bnA ?_)) | (apply q_cl; (first | (first | refine PT.callG rfl (m_gcd a b ha (by omega) h63 h63') rfl rfl ?_ | refine PT.callG rfl (m_gcd a b ha (by omega) h63 h63') (by first | (simp only [nrm]; rfl) | (simp only [nrm, Nat.reduceAdd, Nat.zero_add]; rfl) | rfl) rfl ?_) | refine PT.clA ?_)) | (apply q_st; (first | refine PT.stA ?_)) | (apply q_al; (first | refine PT.nwA ?_)) | (apply q_bd; (first | refine PT.msA ?_))))
      | (with_reducible first | refine kSn ?_ | refine kSr ?_ | refine kBn ?_ | refine kBr ?_ | refine kSe ?_ | refine kBe ?_ | refine kLn ?_ | refine kCn ?_ | refine kCr ?_ | refine kCe ?_ | refine kLr ?_ | refine kLe ?_)
      | with_reducible (refine kBx (by decide) ?_)
      | (with_reducible refine d_kEr ?_; refine kEr rfl ?_)
      | (with_reducible refine d_kEn ?_; refine kEn rfl ?_)))
  rfl
theorem m_withinY {a b c : Int} (h : b ≤ a ∧ a ≤ c) : Maps Tryz.prog 92 [wI a, wI b, wI c] (wB true) := by
  have := m_within a b c
  rw [decide_eq_true h] at this; exact this
theorem m_withinN {a b c : Int} (h : ¬ (b ≤ a ∧ a ≤ c)) : Maps Tryz.prog 92 [wI a, wI b, wI c] (wB false) := by
  have := m_within a b c
  rw [decide_eq_false h] at this; exact this
theorem st38 : Tryz.prog.stoodInHeld 38 = false := by kernel_rfl
theorem gt38 : Tryz.prog.eqGuardType Tryz.prog.depth 38 = false := by kernel_rfl
theorem agg38 (a b c d : Int) : aggEqD Tryz.prog 38 [wI a, wI b] [wI c, wI d] = some (decide (a = c ∧ b = d)) := by
  have e : aggEqD Tryz.prog 38 [wI a, wI b] [wI c, wI d] = if Tryz.prog.stoodInHeld 38 = false ∧ Tryz.prog.eqGuardType Tryz.prog.depth 38 = false then some (a == c && (b == d && true)) else none := rfl
  rw [e, if_pos ⟨st38, gt38⟩]
  refine congrArg some ?_
  rw [Bool.eq_iff_iff]
  simp
theorem m_share (n d : Int) : Maps Tryz.prog 114 [dR (n, d)] (wB (shareS (n, d))) := by
  refine Maps.vt pok Tryz.f114 (n := 22) (rs := [.tmp 2]) rfl rfl rfl rfl rfl rfl fun g => ?_
  unfold shareS
  by_cases q1 : 1 ≤ d ∧ d ≤ 16777216
  · rw [decide_eq_true q1, Bool.true_and]
    have w1 := m_withinY q1
    by_cases q2 : 0 ≤ n ∧ n ≤ d
    · rw [decide_eq_true q2, Bool.true_and]
      have w2 := m_withinY q2
      have hr := m_ratio n d q2.1 q1.1 (by omega) (by omega)
      have hag : aggEqD Tryz.prog 38 [wI (ratioS n d).1, wI (ratioS n d).2] [wI n, wI d] = some (decide (gcdS n d = 1)) := by
        rw [agg38]
        refine congrArg some (decide_eq_decide.2 ?_)
        rw [← ratioS_eq q1.1]
        exact Prod.mk.injEq .. ▸ Iff.rfl
      repeat (any_goals (first
          | (apply w_any; (first | (apply w_nil; (first | refine RT.nil ?_)) | (apply w_g; (first | refine RT.gy rfl ?_ | refine RT.gn rfl rfl ?_ | refine RT.gu rfl ?_ | refine RT.gcY rfl rfl rfl (by first | assumption | omega) ?_ | refine RT.gcN rfl rfl rfl (by first | assumption | omega) ?_ | refine RT.gc rfl rfl rfl (fun hc => ?_) (fun hc => ?_) | refine RT.gb rfl rfl rfl (fun hc => ?_) (fun hc => ?_))) | (apply w_mv; (first | refine RT.mvA ?_ | refine RT.mvM ?_)) | (apply w_as; (first | refine RT.asA ?_ | refine RT.asM ?_)) | (apply w_ld; (first | refine RT.ldA ?_ | refine RT.ldH ?_)) | (apply w_fa; (first | refine RT.faA ?_)) | (apply w_bn; (first | refine RT.bnA ?_)) | (apply w_cl; (first | (first | refine RT.callM rfl (w1) rfl rfl ?_ | refine RT.callM rfl (w1) (by first | (simp only [nrm]; rfl) | (simp only [nrm, Nat.reduceAdd, Nat.zero_add]; rfl) | rfl) rfl ?_) | (first | refine RT.callM rfl (w2) rfl rfl ?_ | refine RT.callM rfl (w2) (by first | (simp only [nrm]; rfl) | (simp only [nrm, Nat.reduceAdd, Nat.zero_add]; rfl) | rfl) rfl ?_) | (first | refine RT.callM rfl (hr) rfl rfl ?_ | refine RT.callM rfl (hr) (by first | (simp only [nrm]; rfl) | (simp only [nrm, Nat.reduceAdd, Nat.zero_add]; rfl) | rfl) rfl ?_) | refine RT.clA ?_ | refine RT.lnH ?_)) | (apply w_pk; (first | refine RT.pkA ?_)) | (apply w_bx; (first | refine RT.nwA ?_))))
          | (apply v_any; (first | refine VT.seq rfl ?_ | refine VT.reg rfl ?_ | refine VT.condT rfl rfl ?_ | refine VT.condF rfl rfl ?_ | refine VT.block rfl ?_ | refine VT.skip rfl ?_ | refine VT.label rfl ?_ | refine VT.scope rfl ?_ | refine VT.exit rfl ?_ | refine VT.ret rfl ?_ | refine VT.draw [(0, []), (0, []), (0, []), (0, []), (0, []), (0, []), (0, []), (0, []), (0, []), (0, []), (0, []), (0, []), (0, []), (0, []), (0, []), (0, []), (0, []), (0, []), (0, []), (0, [])] 1 mixedOk rfl (by decide +kernel) (by decide +kernel) (by decide +kernel) (by first | (simp only [nrm]; rfl) | (simp only [nrm, Nat.reduceAdd, Nat.zero_add]; rfl) | rfl) (by first | (simp only [nrm]; rfl) | (simp only [nrm, Nat.reduceAdd, Nat.zero_add]; rfl) | rfl) ?_ | refine VT.condY rfl rfl (by first | assumption | omega) ?_ | refine VT.condN rfl rfl (by first | assumption | omega) ?_ | refine VT.condD rfl rfl (fun hc => ?_) (fun hc => ?_) | refine VT.cond rfl rfl (fun hc => ?_) (fun hc => ?_)))
          | (apply q_any; (first | (apply q_nil; (first | refine PT.done (by first | (simp only [nrm]; rfl) | (simp only [nrm, Nat.reduceAdd, Nat.zero_add]; rfl) | rfl) ?_)) | (apply q_g; (first | refine PT.gy rfl ?_ | refine PT.gn rfl rfl ?_ | refine PT.gu rfl ?_)) | (apply q_mv; (first | refine PT.mvA ?_)) | (apply q_as; (first | refine PT.asA ?_)) | (apply q_ld; (first | refine PT.ldA ?_)) | (apply q_fa; (first | refine PT.faA ?_)) | (apply q_bn; (first | refine PT.bnA ?_)) | (apply q_cl; (first | (first | refine PT.callG rfl (w1) rfl rfl ?_ | refine PT.callG rfl (w1) (by first | (simp only [nrm]; rfl) | (simp only [nrm, Nat.reduceAdd, Nat.zero_add]; rfl) | rfl) rfl ?_) | (first | refine PT.callG rfl (w2) rfl rfl ?_ | refine PT.callG rfl (w2) (by first | (simp only [nrm]; rfl) | (simp only [nrm, Nat.reduceAdd, Nat.zero_add]; rfl) | rfl) rfl ?_) | (first | refine PT.callG rfl (hr) rfl rfl ?_ | refine PT.callG rfl (hr) (by first | (simp only [nrm]; rfl) | (simp only [nrm, Nat.reduceAdd, Nat.zero_add]; rfl) | rfl) rfl ?_) | refine PT.clA ?_)) | (apply q_pk; (first | refine PT.pkA ?_)) | (apply q_bx; (first | refine PT.nwA ?_)) | refine PT.v (f_eqlAgg rfl rfl hag) ?_))
          | (with_reducible first | refine kSn ?_ | refine kSr ?_ | refine kBn ?_ | refine kBr ?_ | refine kSe ?_ | refine kBe ?_ | refine kLn ?_ | refine kCn ?_ | refine kCr ?_ | refine kCe ?_ | refine kLr ?_ | refine kLe ?_)
          | with_reducible (refine kBx (by decide) ?_)
          | (with_reducible refine d_kEr ?_; refine kEr rfl ?_)
          | (with_reducible refine d_kEn ?_; refine kEn rfl ?_)))
      rfl
    · rw [decide_eq_false q2, Bool.false_and]
      have w2 := m_withinN q2
      repeat (any_goals (first
          | (apply w_any; (first | (apply w_nil; (first | refine RT.nil ?_)) | (apply w_g; (first | refine RT.gy rfl ?_ | refine RT.gn rfl rfl ?_ | refine RT.gu rfl ?_ | refine RT.gcY rfl rfl rfl (by first | assumption | omega) ?_ | refine RT.gcN rfl rfl rfl (by first | assumption | omega) ?_ | refine RT.gc rfl rfl rfl (fun hc => ?_) (fun hc => ?_) | refine RT.gb rfl rfl rfl (fun hc => ?_) (fun hc => ?_))) | (apply w_mv; (first | refine RT.mvA ?_ | refine RT.mvM ?_)) | (apply w_as; (first | refine RT.asA ?_ | refine RT.asM ?_)) | (apply w_ld; (first | refine RT.ldA ?_ | refine RT.ldH ?_)) | (apply w_fa; (first | refine RT.faA ?_)) | (apply w_bn; (first | refine RT.bnA ?_)) | (apply w_cl; (first | (first | refine RT.callM rfl (w1) rfl rfl ?_ | refine RT.callM rfl (w1) (by first | (simp only [nrm]; rfl) | (simp only [nrm, Nat.reduceAdd, Nat.zero_add]; rfl) | rfl) rfl ?_) | (first | refine RT.callM rfl (w2) rfl rfl ?_ | refine RT.callM rfl (w2) (by first | (simp only [nrm]; rfl) | (simp only [nrm, Nat.reduceAdd, Nat.zero_add]; rfl) | rfl) rfl ?_) | refine RT.clA ?_ | refine RT.lnH ?_)) | (apply w_pk; (first | refine RT.pkA ?_)) | (apply w_bx; (first | refine RT.nwA ?_))))
          | (apply v_any; (first | refine VT.seq rfl ?_ | refine VT.reg rfl ?_ | refine VT.condT rfl rfl ?_ | refine VT.condF rfl rfl ?_ | refine VT.block rfl ?_ | refine VT.skip rfl ?_ | refine VT.label rfl ?_ | refine VT.scope rfl ?_ | refine VT.exit rfl ?_ | refine VT.ret rfl ?_ | refine VT.draw [(0, []), (0, []), (0, []), (0, []), (0, []), (0, []), (0, []), (0, []), (0, []), (0, []), (0, []), (0, []), (0, []), (0, []), (0, []), (0, []), (0, []), (0, []), (0, []), (0, [])] 1 mixedOk rfl (by decide +kernel) (by decide +kernel) (by decide +kernel) (by first | (simp only [nrm]; rfl) | (simp only [nrm, Nat.reduceAdd, Nat.zero_add]; rfl) | rfl) (by first | (simp only [nrm]; rfl) | (simp only [nrm, Nat.reduceAdd, Nat.zero_add]; rfl) | rfl) ?_ | refine VT.condY rfl rfl (by first | assumption | omega) ?_ | refine VT.condN rfl rfl (by first | assumption | omega) ?_ | refine VT.condD rfl rfl (fun hc => ?_) (fun hc => ?_) | refine VT.cond rfl rfl (fun hc => ?_) (fun hc => ?_)))
          | (apply q_any; (first | (apply q_nil; (first | refine PT.done (by first | (simp only [nrm]; rfl) | (simp only [nrm, Nat.reduceAdd, Nat.zero_add]; rfl) | rfl) ?_)) | (apply q_g; (first | refine PT.gy rfl ?_ | refine PT.gn rfl rfl ?_ | refine PT.gu rfl ?_)) | (apply q_mv; (first | refine PT.mvA ?_)) | (apply q_as; (first | refine PT.asA ?_)) | (apply q_ld; (first | refine PT.ldA ?_)) | (apply q_fa; (first | refine PT.faA ?_)) | (apply q_bn; (first | refine PT.bnA ?_)) | (apply q_cl; (first | (first | refine PT.callG rfl (w1) rfl rfl ?_ | refine PT.callG rfl (w1) (by first | (simp only [nrm]; rfl) | (simp only [nrm, Nat.reduceAdd, Nat.zero_add]; rfl) | rfl) rfl ?_) | (first | refine PT.callG rfl (w2) rfl rfl ?_ | refine PT.callG rfl (w2) (by first | (simp only [nrm]; rfl) | (simp only [nrm, Nat.reduceAdd, Nat.zero_add]; rfl) | rfl) rfl ?_) | refine PT.clA ?_)) | (apply q_pk; (first | refine PT.pkA ?_)) | (apply q_bx; (first | refine PT.nwA ?_))))
          | (with_reducible first | refine kSn ?_ | refine kSr ?_ | refine kBn ?_ | refine kBr ?_ | refine kSe ?_ | refine kBe ?_ | refine kLn ?_ | refine kCn ?_ | refine kCr ?_ | refine kCe ?_ | refine kLr ?_ | refine kLe ?_)
          | with_reducible (refine kBx (by decide) ?_)
          | (with_reducible refine d_kEr ?_; refine kEr rfl ?_)
          | (with_reducible refine d_kEn ?_; refine kEn rfl ?_)))
      rfl
  · rw [decide_eq_false q1, Bool.false_and]
    have w1 := m_withinN q1
    repeat (any_goals (first
        | (apply w_any; (first | (apply w_nil; (first | refine RT.nil ?_)) | (apply w_g; (first | refine RT.gy rfl ?_ | refine RT.gn rfl rfl ?_ | refine RT.gu rfl ?_ | refine RT.gcY rfl rfl rfl (by first | assumption | omega) ?_ | refine RT.gcN rfl rfl rfl (by first | assumption | omega) ?_ | refine RT.gc rfl rfl rfl (fun hc => ?_) (fun hc => ?_) | refine RT.gb rfl rfl rfl (fun hc => ?_) (fun hc => ?_))) | (apply w_mv; (first | refine RT.mvA ?_ | refine RT.mvM ?_)) | (apply w_as; (first | refine RT.asA ?_ | refine RT.asM ?_)) | (apply w_ld; (first | refine RT.ldA ?_ | refine RT.ldH ?_)) | (apply w_fa; (first | refine RT.faA ?_)) | (apply w_bn; (first | refine RT.bnA ?_)) | (apply w_cl; (first | (first | refine RT.callM rfl (w1) rfl rfl ?_ | refine RT.callM rfl (w1) (by first | (simp only [nrm]; rfl) | (simp only [nrm, Nat.reduceAdd, Nat.zero_add]; rfl) | rfl) rfl ?_) | refine RT.clA ?_ | refine RT.lnH ?_)) | (apply w_pk; (first | refine RT.pkA ?_)) | (apply w_bx; (first | refine RT.nwA ?_))))
        | (apply v_any; (first | refine VT.seq rfl ?_ | refine VT.reg rfl ?_ | refine VT.condT rfl rfl ?_ | refine VT.condF rfl rfl ?_ | refine VT.block rfl ?_ | refine VT.skip rfl ?_ | refine VT.label rfl ?_ | refine VT.scope rfl ?_ | refine VT.exit rfl ?_ | refine VT.ret rfl ?_ | refine VT.draw [(0, []), (0, []), (0, []), (0, []), (0, []), (0, []), (0, []), (0, []), (0, []), (0, []), (0, []), (0, []), (0, []), (0, []), (0, []), (0, []), (0, []), (0, []), (0, []), (0, [])] 1 mixedOk rfl (by decide +kernel) (by decide +kernel) (by decide +kernel) (by first | (simp only [nrm]; rfl) | (simp only [nrm, Nat.reduceAdd, Nat.zero_add]; rfl) | rfl) (by first | (simp only [nrm]; rfl) | (simp only [nrm, Nat.reduceAdd, Nat.zero_add]; rfl) | rfl) ?_ | refine VT.condY rfl rfl (by first | assumption | omega) ?_ | refine VT.condN rfl rfl (by first | assumption | omega) ?_ | refine VT.condD rfl rfl (fun hc => ?_) (fun hc => ?_) | refine VT.cond rfl rfl (fun hc => ?_) (fun hc => ?_)))
        | (apply q_any; (first | (apply q_nil; (first | refine PT.done (by first | (simp only [nrm]; rfl) | (simp only [nrm, Nat.reduceAdd, Nat.zero_add]; rfl) | rfl) ?_)) | (apply q_g; (first | refine PT.gy rfl ?_ | refine PT.gn rfl rfl ?_ | refine PT.gu rfl ?_)) | (apply q_mv; (first | refine PT.mvA ?_)) | (apply q_as; (first | refine PT.asA ?_)) | (apply q_ld; (first | refine PT.ldA ?_)) | (apply q_fa; (first | refine PT.faA ?_)) | (apply q_bn; (first | refine PT.bnA ?_)) | (apply q_cl; (first | (first | refine PT.callG rfl (w1) rfl rfl ?_ | refine PT.callG rfl (w1) (by first | (simp only [nrm]; rfl) | (simp only [nrm, Nat.reduceAdd, Nat.zero_add]; rfl) | rfl) rfl ?_) | refine PT.clA ?_)) | (apply q_pk; (first | refine PT.pkA ?_)) | (apply q_bx; (first | refine PT.nwA ?_))))
        | (with_reducible first | refine kSn ?_ | refine kSr ?_ | refine kBn ?_ | refine kBr ?_ | refine kSe ?_ | refine kBe ?_ | refine kLn ?_ | refine kCn ?_ | refine kCr ?_ | refine kCe ?_ | refine kLr ?_ | refine kLe ?_)
        | with_reducible (refine kBx (by decide) ?_)
        | (with_reducible refine d_kEr ?_; refine kEr rfl ?_)
        | (with_reducible refine d_kEn ?_; refine kEn rfl ?_)))
    rfl
theorem m_Rshare (n d : Int) (h1 : n ≤ 9223372036854775807) (h2 : d ≤ 9223372036854775807) : Maps Tryz.prog 116 [dR (n, d)] (wB (shareS (n, d))) := by
  refine Maps.vt pok Tryz.f116 (n := 29) (rs := [.tmp 2]) rfl rfl rfl rfl rfl rfl fun g => ?_
  unfold shareS
  by_cases q1 : 1 ≤ d ∧ d ≤ 16777216
  · rw [decide_eq_true q1, Bool.true_and]
    by_cases q2 : 0 ≤ n ∧ n ≤ d
    · rw [decide_eq_true q2, Bool.true_and]
      repeat (any_goals (first
          | (apply w_any; (first | (apply w_nil; (first | refine RT.nil ?_)) | (apply w_g; (first | refine RT.gy rfl ?_ | refine RT.gn rfl rfl ?_ | refine RT.gu rfl ?_ | refine RT.gcY rfl rfl rfl (by first | assumption | omega) ?_ | refine RT.gcN rfl rfl rfl (by first | assumption | omega) ?_ | refine RT.gc rfl rfl rfl (fun hc => ?_) (fun hc => ?_) | refine RT.gb rfl rfl rfl (fun hc => ?_) (fun hc => ?_))) | (apply w_mv; (first | refine RT.mvA ?_ | refine RT.mvM ?_)) | (apply w_as; (first | refine RT.asA ?_ | refine RT.asM ?_)) | (apply w_ld; (first | refine RT.ldA ?_ | refine RT.ldH ?_)) | (apply w_fa; (first | refine RT.faA ?_)) | (apply w_bn; (first | refine RT.bnA ?_)) | (apply w_cl; (first | (first | refine RT.callM rfl (m_gcd n d q2.1 (by omega) h1 h2) rfl rfl ?_ | refine RT.callM rfl (m_gcd n d q2.1 (by omega) h1 h2) (by first | (simp only [nrm]; rfl) | (simp only [nrm, Nat.reduceAdd, Nat.zero_add]; rfl) | rfl) rfl ?_) | refine RT.clA ?_ | refine RT.lnH ?_)) | (apply w_pk; (first | refine RT.pkA ?_)) | (apply w_bx; (first | refine RT.nwA ?_))))
          | (apply v_any; (first | refine VT.seq rfl ?_ | refine VT.reg rfl ?_ | refine VT.condT rfl rfl ?_ | refine VT.condF rfl rfl ?_ | refine VT.block rfl ?_ | refine VT.skip rfl ?_ | refine VT.label rfl ?_ | refine VT.scope rfl ?_ | refine VT.exit rfl ?_ | refine VT.ret rfl ?_ | refine VT.condY rfl rfl (by first | assumption | omega) ?_ | refine VT.condN rfl rfl (by first | assumption | omega) ?_ | refine VT.condD rfl rfl (fun hc => ?_) (fun hc => ?_) | refine VT.cond rfl rfl (fun hc => ?_) (fun hc => ?_)))
          | (with_reducible first | refine kSn ?_ | refine kSr ?_ | refine kBn ?_ | refine kBr ?_ | refine kSe ?_ | refine kBe ?_ | refine kLn ?_ | refine kCn ?_ | refine kCr ?_ | refine kCe ?_ | refine kLr ?_ | refine kLe ?_)
          | with_reducible (refine kBx (by decide) ?_)
          | (with_reducible refine d_kEr ?_; refine kEr rfl ?_)
          | (with_reducible refine d_kEn ?_; refine kEn rfl ?_)))
      rfl
    · rw [decide_eq_false q2, Bool.false_and]
      repeat (any_goals (first
          | (apply w_any; (first | (apply w_nil; (first | refine RT.nil ?_)) | (apply w_g; (first | refine RT.gy rfl ?_ | refine RT.gn rfl rfl ?_ | refine RT.gu rfl ?_ | refine RT.gcY rfl rfl rfl (by first | assumption | omega) ?_ | refine RT.gcN rfl rfl rfl (by first | assumption | omega) ?_ | refine RT.gc rfl rfl rfl (fun hc => ?_) (fun hc => ?_) | refine RT.gb rfl rfl rfl (fun hc => ?_) (fun hc => ?_))) | (apply w_mv; (first | refine RT.mvA ?_ | refine RT.mvM ?_)) | (apply w_as; (first | refine RT.asA ?_ | refine RT.asM ?_)) | (apply w_ld; (first | refine RT.ldA ?_ | refine RT.ldH ?_)) | (apply w_fa; (first | refine RT.faA ?_)) | (apply w_bn; (first | refine RT.bnA ?_)) | (apply w_cl; (first | refine RT.clA ?_ | refine RT.lnH ?_)) | (apply w_pk; (first | refine RT.pkA ?_)) | (apply w_bx; (first | refine RT.nwA ?_))))
          | (apply v_any; (first | refine VT.seq rfl ?_ | refine VT.reg rfl ?_ | refine VT.condT rfl rfl ?_ | refine VT.condF rfl rfl ?_ | refine VT.block rfl ?_ | refine VT.skip rfl ?_ | refine VT.label rfl ?_ | refine VT.scope rfl ?_ | refine VT.exit rfl ?_ | refine VT.ret rfl ?_ | refine VT.condY rfl rfl (by first | assumption | omega) ?_ | refine VT.condN rfl rfl (by first | assumption | omega) ?_ | refine VT.condD rfl rfl (fun hc => ?_) (fun hc => ?_) | refine VT.cond rfl rfl (fun hc => ?_) (fun hc => ?_)))
          | (with_reducible first | refine kSn ?_ | refine kSr ?_ | refine kBn ?_ | refine kBr ?_ | refine kSe ?_ | refine kBe ?_ | refine kLn ?_ | refine kCn ?_ | refine kCr ?_ | refine kCe ?_ | refine kLr ?_ | refine kLe ?_)
          | with_reducible (refine kBx (by decide) ?_)
          | (with_reducible refine d_kEr ?_; refine kEr rfl ?_)
          | (with_reducible refine d_kEn ?_; refine kEn rfl ?_)))
      all_goals first | rfl | (exfalso; omega) | (exfalso; simp_all; omega)
  · rw [decide_eq_false q1, Bool.false_and]
    repeat (any_goals (first
        | (apply w_any; (first | (apply w_nil; (first | refine RT.nil ?_)) | (apply w_g; (first | refine RT.gy rfl ?_ | refine RT.gn rfl rfl ?_ | refine RT.gu rfl ?_ | refine RT.gcY rfl rfl rfl (by first | assumption | omega) ?_ | refine RT.gcN rfl rfl rfl (by first | assumption | omega) ?_ | refine RT.gc rfl rfl rfl (fun hc => ?_) (fun hc => ?_) | refine RT.gb rfl rfl rfl (fun hc => ?_) (fun hc => ?_))) | (apply w_mv; (first | refine RT.mvA ?_ | refine RT.mvM ?_)) | (apply w_as; (first | refine RT.asA ?_ | refine RT.asM ?_)) | (apply w_ld; (first | refine RT.ldA ?_ | refine RT.ldH ?_)) | (apply w_fa; (first | refine RT.faA ?_)) | (apply w_bn; (first | refine RT.bnA ?_)) | (apply w_cl; (first | refine RT.clA ?_ | refine RT.lnH ?_)) | (apply w_pk; (first | refine RT.pkA ?_)) | (apply w_bx; (first | refine RT.nwA ?_))))
        | (apply v_any; (first | refine VT.seq rfl ?_ | refine VT.reg rfl ?_ | refine VT.condT rfl rfl ?_ | refine VT.condF rfl rfl ?_ | refine VT.block rfl ?_ | refine VT.skip rfl ?_ | refine VT.label rfl ?_ | refine VT.scope rfl ?_ | refine VT.exit rfl ?_ | refine VT.ret rfl ?_ | refine VT.condY rfl rfl (by first | assumption | omega) ?_ | refine VT.condN rfl rfl (by first | assumption | omega) ?_ | refine VT.condD rfl rfl (fun hc => ?_) (fun hc => ?_) | refine VT.cond rfl rfl (fun hc => ?_) (fun hc => ?_)))
        | (with_reducible first | refine kSn ?_ | refine kSr ?_ | refine kBn ?_ | refine kBr ?_ | refine kSe ?_ | refine kBe ?_ | refine kLn ?_ | refine kCn ?_ | refine kCr ?_ | refine kCe ?_ | refine kLr ?_ | refine kLe ?_)
        | with_reducible (refine kBx (by decide) ?_)
        | (with_reducible refine d_kEr ?_; refine kEr rfl ?_)
        | (with_reducible refine d_kEn ?_; refine kEn rfl ?_)))
    all_goals first | rfl | (exfalso; omega) | (exfalso; simp_all; omega)
end Go.DL
