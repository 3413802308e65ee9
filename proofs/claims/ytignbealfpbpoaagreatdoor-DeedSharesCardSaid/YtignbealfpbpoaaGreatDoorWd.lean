/- Sums of fractions, and which is less: what both compute; the law of shares. -/
import Derived.Test.YtignbealfpbpoaaGreatDoorWc
set_option linter.all false
set_option maxRecDepth 100000
set_option maxHeartbeats 16000000
namespace Go.DL
open Go.Proofs Go

theorem shareS_iff {n d : Int} : shareS (n, d) = true ↔ (1 ≤ d ∧ d ≤ 16777216) ∧ (0 ≤ n ∧ n ≤ d) ∧ gcdS n d = 1 := by
  unfold shareS; simp only [Bool.and_eq_true, decide_eq_true_eq]
/-- The sum, or an error. -/
def addS (a b : Int × Int) : (Int × Int) × Int :=
  if shareS a = true ∧ shareS b = true then if shareS (sumS a b) = true then (sumS a b, 0) else ((0, 0), 3) else ((0, 0), 1)
def lessS2 (a b : Int × Int) : Bool × Int :=
  if shareS a = true ∧ shareS b = true then (lessS a b, 0) else (false, 1)

theorem m_less (a b c d : Int) (h1 : 0 ≤ a ∧ a ≤ 16777216) (h2 : 0 ≤ b ∧ b ≤ 16777216) (h3 : 0 ≤ c ∧ c ≤ 16777216) (h4 : 0 ≤ d ∧ d ≤ 16777216) : Maps Tryz.prog 108 [dR (a, b), dR (c, d)] (wB (lessS (a, b) (c, d))) := by
  refine Maps.vt pok Tryz.f108 (n := 16) (rs := [.tmp 4]) rfl rfl rfl rfl rfl rfl fun g => ?_
  have m1 := mulS h1 h4
  have m2 := mulS h3 h2
  repeat (any_goals (first
      | (apply w_any; (first | (apply w_nil; (first | refine RT.nil ?_)) | (apply w_as; (first | refine RT.asA ?_ | refine RT.asM ?_)) | (apply w_ld; (first | refine RT.ldA ?_ | refine RT.ldH ?_)) | (apply w_fa; (first | refine RT.faA ?_)) | (apply w_bn; (first | refine RT.bnA ?_)) | (apply w_cl; (first | refine RT.clA ?_ | refine RT.lnH ?_)) | (apply w_bx; (first | refine RT.nwA ?_))))
      | (apply v_any; (first | refine VT.seq rfl ?_ | refine VT.reg rfl ?_ | refine VT.condT rfl rfl ?_ | refine VT.condF rfl rfl ?_ | refine VT.block rfl ?_ | refine VT.skip rfl ?_ | refine VT.label rfl ?_ | refine VT.scope rfl ?_ | refine VT.exit rfl ?_ | refine VT.ret rfl ?_ | refine VT.condY rfl rfl (by first | assumption | omega) ?_ | refine VT.condN rfl rfl (by first | assumption | omega) ?_ | refine VT.condD rfl rfl (fun hc => ?_) (fun hc => ?_) | refine VT.cond rfl rfl (fun hc => ?_) (fun hc => ?_)))
      | (with_reducible first | refine kSn ?_ | refine kSr ?_ | refine kBn ?_ | refine kBr ?_ | refine kSe ?_ | refine kBe ?_ | refine kLn ?_ | refine kCn ?_ | refine kCr ?_ | refine kCe ?_ | refine kLr ?_ | refine kLe ?_)
      | with_reducible (refine kBx (by decide) ?_)
      | (with_reducible refine d_kEr ?_; refine kEr rfl ?_)
      | (with_reducible refine d_kEn ?_; refine kEn rfl ?_)))
  rfl
theorem m_Rless (a b c d : Int) (h1 : 0 ≤ a ∧ a ≤ 16777216) (h2 : 0 ≤ b ∧ b ≤ 16777216) (h3 : 0 ≤ c ∧ c ≤ 16777216) (h4 : 0 ≤ d ∧ d ≤ 16777216) : Maps Tryz.prog 91 [dR (a, b), dR (c, d)] (wB (lessS (a, b) (c, d))) := by
  refine Maps.vt pok Tryz.f91 (n := 16) (rs := [.tmp 4]) rfl rfl rfl rfl rfl rfl fun g => ?_
  have m1 := mulS h1 h4
  have m2 := mulS h3 h2
  repeat (any_goals (first
      | (apply w_any; (first | (apply w_nil; (first | refine RT.nil ?_)) | (apply w_as; (first | refine RT.asA ?_ | refine RT.asM ?_)) | (apply w_ld; (first | refine RT.ldA ?_ | refine RT.ldH ?_)) | (apply w_fa; (first | refine RT.faA ?_)) | (apply w_bn; (first | refine RT.bnA ?_)) | (apply w_cl; (first | refine RT.clA ?_ | refine RT.lnH ?_)) | (apply w_bx; (first | refine RT.nwA ?_))))
      | (apply v_any; (first | refine VT.seq rfl ?_ | refine VT.reg rfl ?_ | refine VT.condT rfl rfl ?_ | refine VT.condF rfl rfl ?_ | refine VT.block rfl ?_ | refine VT.skip rfl ?_ | refine VT.label rfl ?_ | refine VT.scope rfl ?_ | refine VT.exit rfl ?_ | refine VT.ret rfl ?_ | refine VT.condY rfl rfl (by first | assumption | omega) ?_ | refine VT.condN rfl rfl (by first | assumption | omega) ?_ | refine VT.condD rfl rfl (fun hc => ?_) (fun hc => ?_) | refine VT.cond rfl rfl (fun hc => ?_) (fun hc => ?_)))
      | (with_reducible first | refine kSn ?_ | refine kSr ?_ | refine kBn ?_ | refine kBr ?_ | refine kSe ?_ | refine kBe ?_ | refine kLn ?_ | refine kCn ?_ | refine kCr ?_ | refine kCe ?_ | refine kLr ?_ | refine kLe ?_)
      | with_reducible (refine kBx (by decide) ?_)
      | (with_reducible refine d_kEr ?_; refine kEr rfl ?_)
      | (with_reducible refine d_kEn ?_; refine kEn rfl ?_)))
  rfl
theorem m_add (a b c d : Int) (h1 : 0 ≤ a ∧ a ≤ 16777216) (h2 : 1 ≤ b ∧ b ≤ 16777216) (h3 : 0 ≤ c ∧ c ≤ 16777216) (h4 : 1 ≤ d ∧ d ≤ 16777216) : Maps Tryz.prog 115 [dR (a, b), dR (c, d)] (dR (sumS (a, b) (c, d))) := by
  refine Maps.vt pok Tryz.f115 (n := 22) (rs := [.cell 4 38]) rfl rfl rfl rfl rfl rfl fun g => ?_
  have m1 := mulS h1 (b := d) ⟨by omega, h4.2⟩
  have m2 := mulS h3 (b := b) ⟨by omega, h2.2⟩
  have m3 := mulS (a := b) (b := d) ⟨by omega, h2.2⟩ ⟨by omega, h4.2⟩
  have m4 : 1 ≤ b * d := Int.mul_pos (show 0 < b by omega) (show 0 < d by omega)
  repeat (any_goals (first
      | (apply w_any; (first | (apply w_nil; (first | refine RT.nil ?_)) | (apply w_ld; (first | refine RT.ldA ?_ | refine RT.ldH ?_)) | (apply w_fa; (first | refine RT.faA ?_)) | (apply w_bn; (first | refine RT.bnA ?_)) | (apply w_cl; (first | (first | refine RT.callM rfl (m_ratio (a * d + c * b) (b * d) (by omega) m4 (by omega) (by omega)) rfl rfl ?_ | refine RT.callM rfl (m_ratio (a * d + c * b) (b * d) (by omega) m4 (by omega) (by omega)) (by first | (simp only [nrm]; rfl) | (simp only [nrm, Nat.reduceAdd, Nat.zero_add]; rfl) | rfl) rfl ?_) | refine RT.clA ?_ | refine RT.lnH ?_)) | (apply w_st; (first | refine RT.stA ?_ | refine RT.stH ?_)) | (apply w_al; (first | refine RT.nwA ?_)) | (apply w_bx; (first | refine RT.nwA ?_))))
      | (apply v_any; (first | refine VT.seq rfl ?_ | refine VT.reg rfl ?_ | refine VT.condT rfl rfl ?_ | refine VT.condF rfl rfl ?_ | refine VT.block rfl ?_ | refine VT.skip rfl ?_ | refine VT.label rfl ?_ | refine VT.scope rfl ?_ | refine VT.exit rfl ?_ | refine VT.ret rfl ?_ | refine VT.condY rfl rfl (by first | assumption | omega) ?_ | refine VT.condN rfl rfl (by first | assumption | omega) ?_ | refine VT.condD rfl rfl (fun hc => ?_) (fun hc => ?_) | refine VT.cond rfl rfl (fun hc => ?_) (fun hc => ?_)))
      | (with_reducible first | refine kSn ?_ | refine kSr ?_ | refine kBn ?_ | refine kBr ?_ | refine kSe ?_ | refine kBe ?_ | refine kLn ?_ | refine kCn ?_ | refine kCr ?_ | refine kCe ?_ | refine kLr ?_ | refine kLe ?_)
      | with_reducible (refine kBx (by decide) ?_)
      | (with_reducible refine d_kEr ?_; refine kEr rfl ?_)
      | (with_reducible refine d_kEn ?_; refine kEn rfl ?_)))
  rfl
theorem m_Rsum (a b c d : Int) (h1 : 0 ≤ a ∧ a ≤ 16777216) (h2 : 1 ≤ b ∧ b ≤ 16777216) (h3 : 0 ≤ c ∧ c ≤ 16777216) (h4 : 1 ≤ d ∧ d ≤ 16777216) : Maps Tryz.prog 117 [dR (a, b), dR (c, d)] (dR (sumS (a, b) (c, d))) := by
  refine Maps.vt pok Tryz.f117 (n := 22) (rs := [.cell 4 38]) rfl rfl rfl rfl rfl rfl fun g => ?_
  have m1 := mulS h1 (b := d) ⟨by omega, h4.2⟩
  have m2 := mulS h3 (b := b) ⟨by omega, h2.2⟩
  have m3 := mulS (a := b) (b := d) ⟨by omega, h2.2⟩ ⟨by omega, h4.2⟩
  have m4 : 1 ≤ b * d := Int.mul_pos (show 0 < b by omega) (show 0 < d by omega)
  repeat (any_goals (first
      | (apply w_any; (first | (apply w_nil; (first | refine RT.nil ?_)) | (apply w_ld; (first | refine RT.ldA ?_ | refine RT.ldH ?_)) | (apply w_fa; (first | refine RT.faA ?_)) | (apply w_bn; (first | refine RT.bnA ?_)) | (apply w_cl; (first | (first | refine RT.callM rfl (m_Rratio (a * d + c * b) (b * d) (by omega) m4 (by omega) (by omega)) rfl rfl ?_ | refine RT.callM rfl (m_Rratio (a * d + c * b) (b * d) (by omega) m4 (by omega) (by omega)) (by first | (simp only [nrm]; rfl) | (simp only [nrm, Nat.reduceAdd, Nat.zero_add]; rfl) | rfl) rfl ?_) | refine RT.clA ?_ | refine RT.lnH ?_)) | (apply w_st; (first | refine RT.stA ?_ | refine RT.stH ?_)) | (apply w_al; (first | refine RT.nwA ?_)) | (apply w_bx; (first | refine RT.nwA ?_))))
      | (apply v_any; (first | refine VT.seq rfl ?_ | refine VT.reg rfl ?_ | refine VT.condT rfl rfl ?_ | refine VT.condF rfl rfl ?_ | refine VT.block rfl ?_ | refine VT.skip rfl ?_ | refine VT.label rfl ?_ | refine VT.scope rfl ?_ | refine VT.exit rfl ?_ | refine VT.ret rfl ?_ | refine VT.condY rfl rfl (by first | assumption | omega) ?_ | refine VT.condN rfl rfl (by first | assumption | omega) ?_ | refine VT.condD rfl rfl (fun hc => ?_) (fun hc => ?_) | refine VT.cond rfl rfl (fun hc => ?_) (fun hc => ?_)))
      | (with_reducible first | refine kSn ?_ | refine kSr ?_ | refine kBn ?_ | refine kBr ?_ | refine kSe ?_ | refine kBe ?_ | refine kLn ?_ | refine kCn ?_ | refine kCr ?_ | refine kCe ?_ | refine kLr ?_ | refine kLe ?_)
      | with_reducible (refine kBx (by decide) ?_)
      | (with_reducible refine d_kEr ?_; refine kEr rfl ?_)
      | (with_reducible refine d_kEn ?_; refine kEn rfl ?_)))
  rfl
theorem ediv_le' {a b : Int} (ha : 0 ≤ a) (hb : 1 ≤ b) : a / b ≤ a := by
  have := Int.ediv_le_self b ha; exact this
theorem sumS_le (a b c d : Int) (h1 : 0 ≤ a ∧ a ≤ 16777216) (h2 : 1 ≤ b ∧ b ≤ 16777216) (h3 : 0 ≤ c ∧ c ≤ 16777216) (h4 : 1 ≤ d ∧ d ≤ 16777216) :
    (sumS (a, b) (c, d)).1 ≤ 9223372036854775807 ∧ (sumS (a, b) (c, d)).2 ≤ 9223372036854775807 := by
  have m1 := mulS h1 (b := d) ⟨by omega, h4.2⟩
  have m2 := mulS h3 (b := b) ⟨by omega, h2.2⟩
  have m3 := mulS (a := b) (b := d) ⟨by omega, h2.2⟩ ⟨by omega, h4.2⟩
  have m4 : 1 ≤ b * d := Int.mul_pos (show 0 < b by omega) (show 0 < d by omega)
  have hg := gcdS_pos (a := a * d + c * b) m4
  have e1 := ediv_le' (a := a * d + c * b) (by omega) hg
  have e2 := ediv_le' (a := b * d) (by omega) hg
  unfold sumS ratioS
  simp only
  omega
theorem m_Add (a b c d : Int) : Maps Tryz.prog 40 [dR (a, b), dR (c, d)] (.tup [dR (addS (a, b) (c, d)).1, wI (addS (a, b) (c, d)).2]) := by
  refine Maps.vt pok Tryz.f40 (n := 24) (rs := [.cell 4 38, .tmp 5]) rfl rfl rfl rfl rfl rfl fun g => ?_
  have s1 := m_share a b
  have s2 := m_share c d
  unfold addS
  cases q1 : shareS (a, b) with
  | false =>
    rw [q1] at s1
    repeat (any_goals (first
        | (apply w_any; (first | (apply w_nil; (first | refine RT.nil ?_)) | (apply w_g; (first | refine RT.gy rfl ?_ | refine RT.gn rfl rfl ?_ | refine RT.gu rfl ?_ | refine RT.gcY rfl rfl rfl (by first | assumption | omega) ?_ | refine RT.gcN rfl rfl rfl (by first | assumption | omega) ?_ | refine RT.gc rfl rfl rfl (fun hc => ?_) (fun hc => ?_) | refine RT.gb rfl rfl rfl (fun hc => ?_) (fun hc => ?_))) | (apply w_mv; (first | refine RT.mvA ?_ | refine RT.mvM ?_)) | (apply w_as; (first | refine RT.asA ?_ | refine RT.asM ?_)) | (apply w_ld; (first | refine RT.ldA ?_ | refine RT.ldH ?_)) | (apply w_cl; (first | (first | refine RT.callM rfl (s1) rfl rfl ?_ | refine RT.callM rfl (s1) (by first | (simp only [nrm]; rfl) | (simp only [nrm, Nat.reduceAdd, Nat.zero_add]; rfl) | rfl) rfl ?_) | refine RT.clA ?_ | refine RT.lnH ?_)) | (apply w_pk; (first | refine RT.pkA ?_)) | (apply w_un; (first | refine RT.unA ?_)) | (apply w_st; (first | refine RT.stA ?_ | refine RT.stH ?_)) | (apply w_al; (first | refine RT.nwA ?_)) | (apply w_bx; (first | refine RT.nwA ?_)) | (apply w_bd; (first | refine RT.msA ?_))))
        | (apply v_any; (first | refine VT.seq rfl ?_ | refine VT.reg rfl ?_ | refine VT.condT rfl rfl ?_ | refine VT.condF rfl rfl ?_ | refine VT.block rfl ?_ | refine VT.skip rfl ?_ | refine VT.label rfl ?_ | refine VT.scope rfl ?_ | refine VT.exit rfl ?_ | refine VT.ret rfl ?_ | refine VT.condY rfl rfl (by first | assumption | omega) ?_ | refine VT.condN rfl rfl (by first | assumption | omega) ?_ | refine VT.condD rfl rfl (fun hc => ?_) (fun hc => ?_) | refine VT.cond rfl rfl (fun hc => ?_) (fun hc => ?_)))
        | (with_reducible first | refine kSn ?_ | refine kSr ?_ | refine kBn ?_ | refine kBr ?_ | refine kSe ?_ | refine kBe ?_ | refine kLn ?_ | refine kCn ?_ | refine kCr ?_ | refine kCe ?_ | refine kLr ?_ | refine kLe ?_)
        | with_reducible (refine kBx (by decide) ?_)
        | (with_reducible refine d_kEr ?_; refine kEr rfl ?_)
        | (with_reducible refine d_kEn ?_; refine kEn rfl ?_)))
    rfl
  | true =>
    cases q2 : shareS (c, d) with
    | false =>
      rw [q1] at s1
      rw [q2] at s2
      repeat (any_goals (first
          | (apply w_any; (first | (apply w_nil; (first | refine RT.nil ?_)) | (apply w_g; (first | refine RT.gy rfl ?_ | refine RT.gn rfl rfl ?_ | refine RT.gu rfl ?_ | refine RT.gcY rfl rfl rfl (by first | assumption | omega) ?_ | refine RT.gcN rfl rfl rfl (by first | assumption | omega) ?_ | refine RT.gc rfl rfl rfl (fun hc => ?_) (fun hc => ?_) | refine RT.gb rfl rfl rfl (fun hc => ?_) (fun hc => ?_))) | (apply w_mv; (first | refine RT.mvA ?_ | refine RT.mvM ?_)) | (apply w_as; (first | refine RT.asA ?_ | refine RT.asM ?_)) | (apply w_ld; (first | refine RT.ldA ?_ | refine RT.ldH ?_)) | (apply w_cl; (first | (first | refine RT.callM rfl (s1) rfl rfl ?_ | refine RT.callM rfl (s1) (by first | (simp only [nrm]; rfl) | (simp only [nrm, Nat.reduceAdd, Nat.zero_add]; rfl) | rfl) rfl ?_) | (first | refine RT.callM rfl (s2) rfl rfl ?_ | refine RT.callM rfl (s2) (by first | (simp only [nrm]; rfl) | (simp only [nrm, Nat.reduceAdd, Nat.zero_add]; rfl) | rfl) rfl ?_) | refine RT.clA ?_ | refine RT.lnH ?_)) | (apply w_pk; (first | refine RT.pkA ?_)) | (apply w_un; (first | refine RT.unA ?_)) | (apply w_st; (first | refine RT.stA ?_ | refine RT.stH ?_)) | (apply w_al; (first | refine RT.nwA ?_)) | (apply w_bx; (first | refine RT.nwA ?_)) | (apply w_bd; (first | refine RT.msA ?_))))
          | (apply v_any; (first | refine VT.seq rfl ?_ | refine VT.reg rfl ?_ | refine VT.condT rfl rfl ?_ | refine VT.condF rfl rfl ?_ | refine VT.block rfl ?_ | refine VT.skip rfl ?_ | refine VT.label rfl ?_ | refine VT.scope rfl ?_ | refine VT.exit rfl ?_ | refine VT.ret rfl ?_ | refine VT.condY rfl rfl (by first | assumption | omega) ?_ | refine VT.condN rfl rfl (by first | assumption | omega) ?_ | refine VT.condD rfl rfl (fun hc => ?_) (fun hc => ?_) | refine VT.cond rfl rfl (fun hc => ?_) (fun hc => ?_)))
          | (with_reducible first | refine kSn ?_ | refine kSr ?_ | refine kBn ?_ | refine kBr ?_ | refine kSe ?_ | refine kBe ?_ | refine kLn ?_ | refine kCn ?_ | refine kCr ?_ | refine kCe ?_ | refine kLr ?_ | refine kLe ?_)
          | with_reducible (refine kBx (by decide) ?_)
          | (with_reducible refine d_kEr ?_; refine kEr rfl ?_)
          | (with_reducible refine d_kEn ?_; refine kEn rfl ?_)))
      rfl
    | true =>
      rw [q1] at s1
      rw [q2] at s2
      rw [if_pos ⟨rfl, rfl⟩]
      obtain ⟨w1, w2, w3⟩ := shareS_iff.1 q1
      obtain ⟨w4, w5, w6⟩ := shareS_iff.1 q2
      have ha := m_add a b c d ⟨w2.1, by omega⟩ w1 ⟨w5.1, by omega⟩ w4
      have s3 := m_share (sumS (a, b) (c, d)).1 (sumS (a, b) (c, d)).2
      cases q3 : shareS (sumS (a, b) (c, d)) with
      | false =>
        rw [show ((sumS (a, b) (c, d)).1, (sumS (a, b) (c, d)).2) = sumS (a, b) (c, d) from rfl, q3] at s3
        repeat (any_goals (first
            | (apply w_any; (first | (apply w_nil; (first | refine RT.nil ?_)) | (apply w_g; (first | refine RT.gy rfl ?_ | refine RT.gn rfl rfl ?_ | refine RT.gu rfl ?_ | refine RT.gcY rfl rfl rfl (by first | assumption | omega) ?_ | refine RT.gcN rfl rfl rfl (by first | assumption | omega) ?_ | refine RT.gc rfl rfl rfl (fun hc => ?_) (fun hc => ?_) | refine RT.gb rfl rfl rfl (fun hc => ?_) (fun hc => ?_))) | (apply w_mv; (first | refine RT.mvA ?_ | refine RT.mvM ?_)) | (apply w_as; (first | refine RT.asA ?_ | refine RT.asM ?_)) | (apply w_ld; (first | refine RT.ldA ?_ | refine RT.ldH ?_)) | (apply w_cl; (first | (first | refine RT.callM rfl (s1) rfl rfl ?_ | refine RT.callM rfl (s1) (by first | (simp only [nrm]; rfl) | (simp only [nrm, Nat.reduceAdd, Nat.zero_add]; rfl) | rfl) rfl ?_) | (first | refine RT.callM rfl (s2) rfl rfl ?_ | refine RT.callM rfl (s2) (by first | (simp only [nrm]; rfl) | (simp only [nrm, Nat.reduceAdd, Nat.zero_add]; rfl) | rfl) rfl ?_) | (first | refine RT.callM rfl (ha) rfl rfl ?_ | refine RT.callM rfl (ha) (by first | (simp only [nrm]; rfl) | (simp only [nrm, Nat.reduceAdd, Nat.zero_add]; rfl) | rfl) rfl ?_) | (first | refine RT.callM rfl (s3) rfl rfl ?_ | refine RT.callM rfl (s3) (by first | (simp only [nrm]; rfl) | (simp only [nrm, Nat.reduceAdd, Nat.zero_add]; rfl) | rfl) rfl ?_) | refine RT.clA ?_ | refine RT.lnH ?_)) | (apply w_pk; (first | refine RT.pkA ?_)) | (apply w_un; (first | refine RT.unA ?_)) | (apply w_st; (first | refine RT.stA ?_ | refine RT.stH ?_)) | (apply w_al; (first | refine RT.nwA ?_)) | (apply w_bx; (first | refine RT.nwA ?_)) | (apply w_bd; (first | refine RT.msA ?_))))
            | (apply v_any; (first | refine VT.seq rfl ?_ | refine VT.reg rfl ?_ | refine VT.condT rfl rfl ?_ | refine VT.condF rfl rfl ?_ | refine VT.block rfl ?_ | refine VT.skip rfl ?_ | refine VT.label rfl ?_ | refine VT.scope rfl ?_ | refine VT.exit rfl ?_ | refine VT.ret rfl ?_ | refine VT.condY rfl rfl (by first | assumption | omega) ?_ | refine VT.condN rfl rfl (by first | assumption | omega) ?_ | refine VT.condD rfl rfl (fun hc => ?_) (fun hc => ?_) | refine VT.cond rfl rfl (fun hc => ?_) (fun hc => ?_)))
            | (with_reducible first | refine kSn ?_ | refine kSr ?_ | refine kBn ?_ | refine kBr ?_ | refine kSe ?_ | refine kBe ?_ | refine kLn ?_ | refine kCn ?_ | refine kCr ?_ | refine kCe ?_ | refine kLr ?_ | refine kLe ?_)
            | with_reducible (refine kBx (by decide) ?_)
            | (with_reducible refine d_kEr ?_; refine kEr rfl ?_)
            | (with_reducible refine d_kEn ?_; refine kEn rfl ?_)))
        rfl
      | true =>
        rw [show ((sumS (a, b) (c, d)).1, (sumS (a, b) (c, d)).2) = sumS (a, b) (c, d) from rfl, q3] at s3
        repeat (any_goals (first
            | (apply w_any; (first | (apply w_nil; (first | refine RT.nil ?_)) | (apply w_g; (first | refine RT.gy rfl ?_ | refine RT.gn rfl rfl ?_ | refine RT.gu rfl ?_ | refine RT.gcY rfl rfl rfl (by first | assumption | omega) ?_ | refine RT.gcN rfl rfl rfl (by first | assumption | omega) ?_ | refine RT.gc rfl rfl rfl (fun hc => ?_) (fun hc => ?_) | refine RT.gb rfl rfl rfl (fun hc => ?_) (fun hc => ?_))) | (apply w_mv; (first | refine RT.mvA ?_ | refine RT.mvM ?_)) | (apply w_as; (first | refine RT.asA ?_ | refine RT.asM ?_)) | (apply w_ld; (first | refine RT.ldA ?_ | refine RT.ldH ?_)) | (apply w_cl; (first | (first | refine RT.callM rfl (s1) rfl rfl ?_ | refine RT.callM rfl (s1) (by first | (simp only [nrm]; rfl) | (simp only [nrm, Nat.reduceAdd, Nat.zero_add]; rfl) | rfl) rfl ?_) | (first | refine RT.callM rfl (s2) rfl rfl ?_ | refine RT.callM rfl (s2) (by first | (simp only [nrm]; rfl) | (simp only [nrm, Nat.reduceAdd, Nat.zero_add]; rfl) | rfl) rfl ?_) | (first | refine RT.callM rfl (ha) rfl rfl ?_ | refine RT.callM rfl (ha) (by first | (simp only [nrm]; rfl) | (simp only [nrm, Nat.reduceAdd, Nat.zero_add]; rfl) | rfl) rfl ?_) | (first | refine RT.callM rfl (s3) rfl rfl ?_ | refine RT.callM rfl (s3) (by first | (simp only [nrm]; rfl) | (simp only [nrm, Nat.reduceAdd, Nat.zero_add]; rfl) | rfl) rfl ?_) | refine RT.clA ?_ | refine RT.lnH ?_)) | (apply w_pk; (first | refine RT.pkA ?_)) | (apply w_un; (first | refine RT.unA ?_)) | (apply w_st; (first | refine RT.stA ?_ | refine RT.stH ?_)) | (apply w_al; (first | refine RT.nwA ?_)) | (apply w_bx; (first | refine RT.nwA ?_)) | (apply w_bd; (first | refine RT.msA ?_))))
            | (apply v_any; (first | refine VT.seq rfl ?_ | refine VT.reg rfl ?_ | refine VT.condT rfl rfl ?_ | refine VT.condF rfl rfl ?_ | refine VT.block rfl ?_ | refine VT.skip rfl ?_ | refine VT.label rfl ?_ | refine VT.scope rfl ?_ | refine VT.exit rfl ?_ | refine VT.ret rfl ?_ | refine VT.condY rfl rfl (by first | assumption | omega) ?_ | refine VT.condN rfl rfl (by first | assumption | omega) ?_ | refine VT.condD rfl rfl (fun hc => ?_) (fun hc => ?_) | refine VT.cond rfl rfl (fun hc => ?_) (fun hc => ?_)))
            | (with_reducible first | refine kSn ?_ | refine kSr ?_ | refine kBn ?_ | refine kBr ?_ | refine kSe ?_ | refine kBe ?_ | refine kLn ?_ | refine kCn ?_ | refine kCr ?_ | refine kCe ?_ | refine kLr ?_ | refine kLe ?_)
            | with_reducible (refine kBx (by decide) ?_)
            | (with_reducible refine d_kEr ?_; refine kEr rfl ?_)
            | (with_reducible refine d_kEn ?_; refine kEn rfl ?_)))
        rfl
theorem m_RAdd (a b c d : Int) (ha : a ≤ 9223372036854775807) (hb : b ≤ 9223372036854775807) (hc' : c ≤ 9223372036854775807) (hd : d ≤ 9223372036854775807) :
    Maps Tryz.prog 41 [dR (a, b), dR (c, d)] (.agg [wI (addS (a, b) (c, d)).1.1, wI (addS (a, b) (c, d)).1.2, wI (addS (a, b) (c, d)).2]) := by
  refine Maps.vt pok Tryz.f41 (n := 30) (rs := [.cell 4 65]) rfl rfl rfl rfl rfl rfl fun g => ?_
  have s1 := m_Rshare a b ha hb
  have s2 := m_Rshare c d hc' hd
  unfold addS
  cases q1 : shareS (a, b) with
  | false =>
    rw [q1] at s1
    cases q2 : shareS (c, d) with
    | false =>
      rw [q2] at s2
      repeat (any_goals (first
          | (apply w_any; (first | (apply w_nil; (first | refine RT.nil ?_)) | (apply w_g; (first | refine RT.gy rfl ?_ | refine RT.gn rfl rfl ?_ | refine RT.gu rfl ?_ | refine RT.gcY rfl rfl rfl (by first | assumption | omega) ?_ | refine RT.gcN rfl rfl rfl (by first | assumption | omega) ?_ | refine RT.gc rfl rfl rfl (fun hc => ?_) (fun hc => ?_) | refine RT.gb rfl rfl rfl (fun hc => ?_) (fun hc => ?_))) | (apply w_mv; (first | refine RT.mvA ?_ | refine RT.mvM ?_)) | (apply w_as; (first | refine RT.asA ?_ | refine RT.asM ?_)) | (apply w_ld; (first | refine RT.ldA ?_ | refine RT.ldH ?_)) | (apply w_cl; (first | (first | refine RT.callM rfl (s1) rfl rfl ?_ | refine RT.callM rfl (s1) (by first | (simp only [nrm]; rfl) | (simp only [nrm, Nat.reduceAdd, Nat.zero_add]; rfl) | rfl) rfl ?_) | (first | refine RT.callM rfl (s2) rfl rfl ?_ | refine RT.callM rfl (s2) (by first | (simp only [nrm]; rfl) | (simp only [nrm, Nat.reduceAdd, Nat.zero_add]; rfl) | rfl) rfl ?_) | refine RT.clA ?_ | refine RT.lnH ?_)) | (apply w_pk; (first | refine RT.pkA ?_)) | (apply w_un; (first | refine RT.unA ?_)) | (apply w_st; (first | refine RT.stA ?_ | refine RT.stH ?_)) | (apply w_al; (first | refine RT.nwA ?_)) | (apply w_bx; (first | refine RT.nwA ?_)) | (apply w_bd; (first | refine RT.msA ?_))))
          | (apply v_any; (first | refine VT.seq rfl ?_ | refine VT.reg rfl ?_ | refine VT.condT rfl rfl ?_ | refine VT.condF rfl rfl ?_ | refine VT.block rfl ?_ | refine VT.skip rfl ?_ | refine VT.label rfl ?_ | refine VT.scope rfl ?_ | refine VT.exit rfl ?_ | refine VT.ret rfl ?_ | refine VT.condY rfl rfl (by first | assumption | omega) ?_ | refine VT.condN rfl rfl (by first | assumption | omega) ?_ | refine VT.condD rfl rfl (fun hc => ?_) (fun hc => ?_) | refine VT.cond rfl rfl (fun hc => ?_) (fun hc => ?_)))
          | (with_reducible first | refine kSn ?_ | refine kSr ?_ | refine kBn ?_ | refine kBr ?_ | refine kSe ?_ | refine kBe ?_ | refine kLn ?_ | refine kCn ?_ | refine kCr ?_ | refine kCe ?_ | refine kLr ?_ | refine kLe ?_)
          | with_reducible (refine kBx (by decide) ?_)
          | (with_reducible refine d_kEr ?_; refine kEr rfl ?_)
          | (with_reducible refine d_kEn ?_; refine kEn rfl ?_)))
      rfl
    | true =>
      rw [q2] at s2
      repeat (any_goals (first
          | (apply w_any; (first | (apply w_nil; (first | refine RT.nil ?_)) | (apply w_g; (first | refine RT.gy rfl ?_ | refine RT.gn rfl rfl ?_ | refine RT.gu rfl ?_ | refine RT.gcY rfl rfl rfl (by first | assumption | omega) ?_ | refine RT.gcN rfl rfl rfl (by first | assumption | omega) ?_ | refine RT.gc rfl rfl rfl (fun hc => ?_) (fun hc => ?_) | refine RT.gb rfl rfl rfl (fun hc => ?_) (fun hc => ?_))) | (apply w_mv; (first | refine RT.mvA ?_ | refine RT.mvM ?_)) | (apply w_as; (first | refine RT.asA ?_ | refine RT.asM ?_)) | (apply w_ld; (first | refine RT.ldA ?_ | refine RT.ldH ?_)) | (apply w_cl; (first | (first | refine RT.callM rfl (s1) rfl rfl ?_ | refine RT.callM rfl (s1) (by first | (simp only [nrm]; rfl) | (simp only [nrm, Nat.reduceAdd, Nat.zero_add]; rfl) | rfl) rfl ?_) | (first | refine RT.callM rfl (s2) rfl rfl ?_ | refine RT.callM rfl (s2) (by first | (simp only [nrm]; rfl) | (simp only [nrm, Nat.reduceAdd, Nat.zero_add]; rfl) | rfl) rfl ?_) | refine RT.clA ?_ | refine RT.lnH ?_)) | (apply w_pk; (first | refine RT.pkA ?_)) | (apply w_un; (first | refine RT.unA ?_)) | (apply w_st; (first | refine RT.stA ?_ | refine RT.stH ?_)) | (apply w_al; (first | refine RT.nwA ?_)) | (apply w_bx; (first | refine RT.nwA ?_)) | (apply w_bd; (first | refine RT.msA ?_))))
          | (apply v_any; (first | refine VT.seq rfl ?_ | refine VT.reg rfl ?_ | refine VT.condT rfl rfl ?_ | refine VT.condF rfl rfl ?_ | refine VT.block rfl ?_ | refine VT.skip rfl ?_ | refine VT.label rfl ?_ | refine VT.scope rfl ?_ | refine VT.exit rfl ?_ | refine VT.ret rfl ?_ | refine VT.condY rfl rfl (by first | assumption | omega) ?_ | refine VT.condN rfl rfl (by first | assumption | omega) ?_ | refine VT.condD rfl rfl (fun hc => ?_) (fun hc => ?_) | refine VT.cond rfl rfl (fun hc => ?_) (fun hc => ?_)))
          | (with_reducible first | refine kSn ?_ | refine kSr ?_ | refine kBn ?_ | refine kBr ?_ | refine kSe ?_ | refine kBe ?_ | refine kLn ?_ | refine kCn ?_ | refine kCr ?_ | refine kCe ?_ | refine kLr ?_ | refine kLe ?_)
          | with_reducible (refine kBx (by decide) ?_)
          | (with_reducible refine d_kEr ?_; refine kEr rfl ?_)
          | (with_reducible refine d_kEn ?_; refine kEn rfl ?_)))
      rfl
  | true =>
    cases q2 : shareS (c, d) with
    | false =>
      rw [q1] at s1
      rw [q2] at s2
      repeat (any_goals (first
          | (apply w_any; (first | (apply w_nil; (first | refine RT.nil ?_)) | (apply w_g; (first | refine RT.gy rfl ?_ | refine RT.gn rfl rfl ?_ | refine RT.gu rfl ?_ | refine RT.gcY rfl rfl rfl (by first | assumption | omega) ?_ | refine RT.gcN rfl rfl rfl (by first | assumption | omega) ?_ | refine RT.gc rfl rfl rfl (fun hc => ?_) (fun hc => ?_) | refine RT.gb rfl rfl rfl (fun hc => ?_) (fun hc => ?_))) | (apply w_mv; (first | refine RT.mvA ?_ | refine RT.mvM ?_)) | (apply w_as; (first | refine RT.asA ?_ | refine RT.asM ?_)) | (apply w_ld; (first | refine RT.ldA ?_ | refine RT.ldH ?_)) | (apply w_cl; (first | (first | refine RT.callM rfl (s1) rfl rfl ?_ | refine RT.callM rfl (s1) (by first | (simp only [nrm]; rfl) | (simp only [nrm, Nat.reduceAdd, Nat.zero_add]; rfl) | rfl) rfl ?_) | (first | refine RT.callM rfl (s2) rfl rfl ?_ | refine RT.callM rfl (s2) (by first | (simp only [nrm]; rfl) | (simp only [nrm, Nat.reduceAdd, Nat.zero_add]; rfl) | rfl) rfl ?_) | refine RT.clA ?_ | refine RT.lnH ?_)) | (apply w_pk; (first | refine RT.pkA ?_)) | (apply w_un; (first | refine RT.unA ?_)) | (apply w_st; (first | refine RT.stA ?_ | refine RT.stH ?_)) | (apply w_al; (first | refine RT.nwA ?_)) | (apply w_bx; (first | refine RT.nwA ?_)) | (apply w_bd; (first | refine RT.msA ?_))))
          | (apply v_any; (first | refine VT.seq rfl ?_ | refine VT.reg rfl ?_ | refine VT.condT rfl rfl ?_ | refine VT.condF rfl rfl ?_ | refine VT.block rfl ?_ | refine VT.skip rfl ?_ | refine VT.label rfl ?_ | refine VT.scope rfl ?_ | refine VT.exit rfl ?_ | refine VT.ret rfl ?_ | refine VT.condY rfl rfl (by first | assumption | omega) ?_ | refine VT.condN rfl rfl (by first | assumption | omega) ?_ | refine VT.condD rfl rfl (fun hc => ?_) (fun hc => ?_) | refine VT.cond rfl rfl (fun hc => ?_) (fun hc => ?_)))
          | (with_reducible first | refine kSn ?_ | refine kSr ?_ | refine kBn ?_ | refine kBr ?_ | refine kSe ?_ | refine kBe ?_ | refine kLn ?_ | refine kCn ?_ | refine kCr ?_ | refine kCe ?_ | refine kLr ?_ | refine kLe ?_)
          | with_reducible (refine kBx (by decide) ?_)
          | (with_reducible refine d_kEr ?_; refine kEr rfl ?_)
          | (with_reducible refine d_kEn ?_; refine kEn rfl ?_)))
      rfl
    | true =>
      rw [q1] at s1
      rw [q2] at s2
      rw [if_pos ⟨rfl, rfl⟩]
      obtain ⟨w1, w2, w3⟩ := shareS_iff.1 q1
      obtain ⟨w4, w5, w6⟩ := shareS_iff.1 q2
      have hs := m_Rsum a b c d ⟨w2.1, by omega⟩ w1 ⟨w5.1, by omega⟩ w4
      obtain ⟨l1, l2⟩ := sumS_le a b c d ⟨w2.1, by omega⟩ w1 ⟨w5.1, by omega⟩ w4
      have s3 := m_Rshare (sumS (a, b) (c, d)).1 (sumS (a, b) (c, d)).2 l1 l2
      cases q3 : shareS (sumS (a, b) (c, d)) with
      | false =>
        rw [show ((sumS (a, b) (c, d)).1, (sumS (a, b) (c, d)).2) = sumS (a, b) (c, d) from rfl, q3] at s3
        repeat (any_goals (first
            | (apply w_any; (first | (apply w_nil; (first | refine RT.nil ?_)) | (apply w_g; (first | refine RT.gy rfl ?_ | refine RT.gn rfl rfl ?_ | refine RT.gu rfl ?_ | refine RT.gcY rfl rfl rfl (by first | assumption | omega) ?_ | refine RT.gcN rfl rfl rfl (by first | assumption | omega) ?_ | refine RT.gc rfl rfl rfl (fun hc => ?_) (fun hc => ?_) | refine RT.gb rfl rfl rfl (fun hc => ?_) (fun hc => ?_))) | (apply w_mv; (first | refine RT.mvA ?_ | refine RT.mvM ?_)) | (apply w_as; (first | refine RT.asA ?_ | refine RT.asM ?_)) | (apply w_ld; (first | refine RT.ldA ?_ | refine RT.ldH ?_)) | (apply w_cl; (first | (first | refine RT.callM rfl (s1) rfl rfl ?_ | refine RT.callM rfl (s1) (by first | (simp only [nrm]; rfl) | (simp only [nrm, Nat.reduceAdd, Nat.zero_add]; rfl) | rfl) rfl ?_) | (first | refine RT.callM rfl (s2) rfl rfl ?_ | refine RT.callM rfl (s2) (by first | (simp only [nrm]; rfl) | (simp only [nrm, Nat.reduceAdd, Nat.zero_add]; rfl) | rfl) rfl ?_) | (first | refine RT.callM rfl (hs) rfl rfl ?_ | refine RT.callM rfl (hs) (by first | (simp only [nrm]; rfl) | (simp only [nrm, Nat.reduceAdd, Nat.zero_add]; rfl) | rfl) rfl ?_) | (first | refine RT.callM rfl (s3) rfl rfl ?_ | refine RT.callM rfl (s3) (by first | (simp only [nrm]; rfl) | (simp only [nrm, Nat.reduceAdd, Nat.zero_add]; rfl) | rfl) rfl ?_) | refine RT.clA ?_ | refine RT.lnH ?_)) | (apply w_pk; (first | refine RT.pkA ?_)) | (apply w_un; (first | refine RT.unA ?_)) | (apply w_st; (first | refine RT.stA ?_ | refine RT.stH ?_)) | (apply w_al; (first | refine RT.nwA ?_)) | (apply w_bx; (first | refine RT.nwA ?_)) | (apply w_bd; (first | refine RT.msA ?_))))
            | (apply v_any; (first | refine VT.seq rfl ?_ | refine VT.reg rfl ?_ | refine VT.condT rfl rfl ?_ | refine VT.condF rfl rfl ?_ | refine VT.block rfl ?_ | refine VT.skip rfl ?_ | refine VT.label rfl ?_ | refine VT.scope rfl ?_ | refine VT.exit rfl ?_ | refine VT.ret rfl ?_ | refine VT.condY rfl rfl (by first | assumption | omega) ?_ | refine VT.condN rfl rfl (by first | assumption | omega) ?_ | refine VT.condD rfl rfl (fun hc => ?_) (fun hc => ?_) | refine VT.cond rfl rfl (fun hc => ?_) (fun hc => ?_)))
            | (with_reducible first | refine kSn ?_ | refine kSr ?_ | refine kBn ?_ | refine kBr ?_ | refine kSe ?_ | refine kBe ?_ | refine kLn ?_ | refine kCn ?_ | refine kCr ?_ | refine kCe ?_ | refine kLr ?_ | refine kLe ?_)
            | with_reducible (refine kBx (by decide) ?_)
            | (with_reducible refine d_kEr ?_; refine kEr rfl ?_)
            | (with_reducible refine d_kEn ?_; refine kEn rfl ?_)))
        rfl
      | true =>
        rw [show ((sumS (a, b) (c, d)).1, (sumS (a, b) (c, d)).2) = sumS (a, b) (c, d) from rfl, q3] at s3
        repeat (any_goals (first
            | (apply w_any; (first | (apply w_nil; (first | refine RT.nil ?_)) | (apply w_g; (first | refine RT.gy rfl ?_ | refine RT.gn rfl rfl ?_ | refine RT.gu rfl ?_ | refine RT.gcY rfl rfl rfl (by first | assumption | omega) ?_ | refine RT.gcN rfl rfl rfl (by first | assumption | omega) ?_ | refine RT.gc rfl rfl rfl (fun hc => ?_) (fun hc => ?_) | refine RT.gb rfl rfl rfl (fun hc => ?_) (fun hc => ?_))) | (apply w_mv; (first | refine RT.mvA ?_ | refine RT.mvM ?_)) | (apply w_as; (first | refine RT.asA ?_ | refine RT.asM ?_)) | (apply w_ld; (first | refine RT.ldA ?_ | refine RT.ldH ?_)) | (apply w_cl; (first | (first | refine RT.callM rfl (s1) rfl rfl ?_ | refine RT.callM rfl (s1) (by first | (simp only [nrm]; rfl) | (simp only [nrm, Nat.reduceAdd, Nat.zero_add]; rfl) | rfl) rfl ?_) | (first | refine RT.callM rfl (s2) rfl rfl ?_ | refine RT.callM rfl (s2) (by first | (simp only [nrm]; rfl) | (simp only [nrm, Nat.reduceAdd, Nat.zero_add]; rfl) | rfl) rfl ?_) | (first | refine RT.callM rfl (hs) rfl rfl ?_ | refine RT.callM rfl (hs) (by first | (simp only [nrm]; rfl) | (simp only [nrm, Nat.reduceAdd, Nat.zero_add]; rfl) | rfl) rfl ?_) | (first | refine RT.callM rfl (s3) rfl rfl ?_ | refine RT.callM rfl (s3) (by first | (simp only [nrm]; rfl) | (simp only [nrm, Nat.reduceAdd, Nat.zero_add]; rfl) | rfl) rfl ?_) | refine RT.clA ?_ | refine RT.lnH ?_)) | (apply w_pk; (first | refine RT.pkA ?_)) | (apply w_un; (first | refine RT.unA ?_)) | (apply w_st; (first | refine RT.stA ?_ | refine RT.stH ?_)) | (apply w_al; (first | refine RT.nwA ?_)) | (apply w_bx; (first | refine RT.nwA ?_)) | (apply w_bd; (first | refine RT.msA ?_))))
            | (apply v_any; (first | refine VT.seq rfl ?_ | refine VT.reg rfl ?_ | refine VT.condT rfl rfl ?_ | refine VT.condF rfl rfl ?_ | refine VT.block rfl ?_ | refine VT.skip rfl ?_ | refine VT.label rfl ?_ | refine VT.scope rfl ?_ | refine VT.exit rfl ?_ | refine VT.ret rfl ?_ | refine VT.condY rfl rfl (by first | assumption | omega) ?_ | refine VT.condN rfl rfl (by first | assumption | omega) ?_ | refine VT.condD rfl rfl (fun hc => ?_) (fun hc => ?_) | refine VT.cond rfl rfl (fun hc => ?_) (fun hc => ?_)))
            | (with_reducible first | refine kSn ?_ | refine kSr ?_ | refine kBn ?_ | refine kBr ?_ | refine kSe ?_ | refine kBe ?_ | refine kLn ?_ | refine kCn ?_ | refine kCr ?_ | refine kCe ?_ | refine kLr ?_ | refine kLe ?_)
            | with_reducible (refine kBx (by decide) ?_)
            | (with_reducible refine d_kEr ?_; refine kEr rfl ?_)
            | (with_reducible refine d_kEn ?_; refine kEn rfl ?_)))
        rfl
theorem m_Less (a b c d : Int) : Maps Tryz.prog 42 [dR (a, b), dR (c, d)] (.tup [wB (lessS2 (a, b) (c, d)).1, wI (lessS2 (a, b) (c, d)).2]) := by
  refine Maps.vt pok Tryz.f42 (n := 17) (rs := [.tmp 4, .tmp 5]) rfl rfl rfl rfl rfl rfl fun g => ?_
  have s1 := m_share a b
  have s2 := m_share c d
  unfold lessS2
  cases q1 : shareS (a, b) with
  | false =>
    rw [q1] at s1
    repeat (any_goals (first
        | (apply w_any; (first | (apply w_nil; (first | refine RT.nil ?_)) | (apply w_g; (first | refine RT.gy rfl ?_ | refine RT.gn rfl rfl ?_ | refine RT.gu rfl ?_ | refine RT.gcY rfl rfl rfl (by first | assumption | omega) ?_ | refine RT.gcN rfl rfl rfl (by first | assumption | omega) ?_ | refine RT.gc rfl rfl rfl (fun hc => ?_) (fun hc => ?_) | refine RT.gb rfl rfl rfl (fun hc => ?_) (fun hc => ?_))) | (apply w_mv; (first | refine RT.mvA ?_ | refine RT.mvM ?_)) | (apply w_as; (first | refine RT.asA ?_ | refine RT.asM ?_)) | (apply w_ld; (first | refine RT.ldA ?_ | refine RT.ldH ?_)) | (apply w_cl; (first | (first | refine RT.callM rfl (s1) rfl rfl ?_ | refine RT.callM rfl (s1) (by first | (simp only [nrm]; rfl) | (simp only [nrm, Nat.reduceAdd, Nat.zero_add]; rfl) | rfl) rfl ?_) | refine RT.clA ?_ | refine RT.lnH ?_)) | (apply w_pk; (first | refine RT.pkA ?_)) | (apply w_un; (first | refine RT.unA ?_)) | (apply w_bx; (first | refine RT.nwA ?_))))
        | (apply v_any; (first | refine VT.seq rfl ?_ | refine VT.reg rfl ?_ | refine VT.condT rfl rfl ?_ | refine VT.condF rfl rfl ?_ | refine VT.block rfl ?_ | refine VT.skip rfl ?_ | refine VT.label rfl ?_ | refine VT.scope rfl ?_ | refine VT.exit rfl ?_ | refine VT.ret rfl ?_ | refine VT.condY rfl rfl (by first | assumption | omega) ?_ | refine VT.condN rfl rfl (by first | assumption | omega) ?_ | refine VT.condD rfl rfl (fun hc => ?_) (fun hc => ?_) | refine VT.cond rfl rfl (fun hc => ?_) (fun hc => ?_)))
        | (with_reducible first | refine kSn ?_ | refine kSr ?_ | refine kBn ?_ | refine kBr ?_ | refine kSe ?_ | refine kBe ?_ | refine kLn ?_ | refine kCn ?_ | refine kCr ?_ | refine kCe ?_ | refine kLr ?_ | refine kLe ?_)
        | with_reducible (refine kBx (by decide) ?_)
        | (with_reducible refine d_kEr ?_; refine kEr rfl ?_)
        | (with_reducible refine d_kEn ?_; refine kEn rfl ?_)))
    rfl
  | true =>
    cases q2 : shareS (c, d) with
    | false =>
      rw [q1] at s1
      rw [q2] at s2
      repeat (any_goals (first
          | (apply w_any; (first | (apply w_nil; (first | refine RT.nil ?_)) | (apply w_g; (first | refine RT.gy rfl ?_ | refine RT.gn rfl rfl ?_ | refine RT.gu rfl ?_ | refine RT.gcY rfl rfl rfl (by first | assumption | omega) ?_ | refine RT.gcN rfl rfl rfl (by first | assumption | omega) ?_ | refine RT.gc rfl rfl rfl (fun hc => ?_) (fun hc => ?_) | refine RT.gb rfl rfl rfl (fun hc => ?_) (fun hc => ?_))) | (apply w_mv; (first | refine RT.mvA ?_ | refine RT.mvM ?_)) | (apply w_as; (first | refine RT.asA ?_ | refine RT.asM ?_)) | (apply w_ld; (first | refine RT.ldA ?_ | refine RT.ldH ?_)) | (apply w_cl; (first | (first | refine RT.callM rfl (s1) rfl rfl ?_ | refine RT.callM rfl (s1) (by first | (simp only [nrm]; rfl) | (simp only [nrm, Nat.reduceAdd, Nat.zero_add]; rfl) | rfl) rfl ?_) | (first | refine RT.callM rfl (s2) rfl rfl ?_ | refine RT.callM rfl (s2) (by first | (simp only [nrm]; rfl) | (simp only [nrm, Nat.reduceAdd, Nat.zero_add]; rfl) | rfl) rfl ?_) | refine RT.clA ?_ | refine RT.lnH ?_)) | (apply w_pk; (first | refine RT.pkA ?_)) | (apply w_un; (first | refine RT.unA ?_)) | (apply w_bx; (first | refine RT.nwA ?_))))
          | (apply v_any; (first | refine VT.seq rfl ?_ | refine VT.reg rfl ?_ | refine VT.condT rfl rfl ?_ | refine VT.condF rfl rfl ?_ | refine VT.block rfl ?_ | refine VT.skip rfl ?_ | refine VT.label rfl ?_ | refine VT.scope rfl ?_ | refine VT.exit rfl ?_ | refine VT.ret rfl ?_ | refine VT.condY rfl rfl (by first | assumption | omega) ?_ | refine VT.condN rfl rfl (by first | assumption | omega) ?_ | refine VT.condD rfl rfl (fun hc => ?_) (fun hc => ?_) | refine VT.cond rfl rfl (fun hc => ?_) (fun hc => ?_)))
          | (with_reducible first | refine kSn ?_ | refine kSr ?_ | refine kBn ?_ | refine kBr ?_ | refine kSe ?_ | refine kBe ?_ | refine kLn ?_ | refine kCn ?_ | refine kCr ?_ | refine kCe ?_ | refine kLr ?_ | refine kLe ?_)
          | with_reducible (refine kBx (by decide) ?_)
          | (with_reducible refine d_kEr ?_; refine kEr rfl ?_)
          | (with_reducible refine d_kEn ?_; refine kEn rfl ?_)))
      rfl
    | true =>
      rw [q1] at s1
      rw [q2] at s2
      rw [if_pos ⟨rfl, rfl⟩]
      obtain ⟨w1, w2, w3⟩ := shareS_iff.1 q1
      obtain ⟨w4, w5, w6⟩ := shareS_iff.1 q2
      have hl := m_less a b c d ⟨w2.1, by omega⟩ ⟨by omega, w1.2⟩ ⟨w5.1, by omega⟩ ⟨by omega, w4.2⟩
      repeat (any_goals (first
          | (apply w_any; (first | (apply w_nil; (first | refine RT.nil ?_)) | (apply w_g; (first | refine RT.gy rfl ?_ | refine RT.gn rfl rfl ?_ | refine RT.gu rfl ?_ | refine RT.gcY rfl rfl rfl (by first | assumption | omega) ?_ | refine RT.gcN rfl rfl rfl (by first | assumption | omega) ?_ | refine RT.gc rfl rfl rfl (fun hc => ?_) (fun hc => ?_) | refine RT.gb rfl rfl rfl (fun hc => ?_) (fun hc => ?_))) | (apply w_mv; (first | refine RT.mvA ?_ | refine RT.mvM ?_)) | (apply w_as; (first | refine RT.asA ?_ | refine RT.asM ?_)) | (apply w_ld; (first | refine RT.ldA ?_ | refine RT.ldH ?_)) | (apply w_cl; (first | (first | refine RT.callM rfl (s1) rfl rfl ?_ | refine RT.callM rfl (s1) (by first | (simp only [nrm]; rfl) | (simp only [nrm, Nat.reduceAdd, Nat.zero_add]; rfl) | rfl) rfl ?_) | (first | refine RT.callM rfl (s2) rfl rfl ?_ | refine RT.callM rfl (s2) (by first | (simp only [nrm]; rfl) | (simp only [nrm, Nat.reduceAdd, Nat.zero_add]; rfl) | rfl) rfl ?_) | (first | refine RT.callM rfl (hl) rfl rfl ?_ | refine RT.callM rfl (hl) (by first | (simp only [nrm]; rfl) | (simp only [nrm, Nat.reduceAdd, Nat.zero_add]; rfl) | rfl) rfl ?_) | refine RT.clA ?_ | refine RT.lnH ?_)) | (apply w_pk; (first | refine RT.pkA ?_)) | (apply w_un; (first | refine RT.unA ?_)) | (apply w_bx; (first | refine RT.nwA ?_))))
          | (apply v_any; (first | refine VT.seq rfl ?_ | refine VT.reg rfl ?_ | refine VT.condT rfl rfl ?_ | refine VT.condF rfl rfl ?_ | refine VT.block rfl ?_ | refine VT.skip rfl ?_ | refine VT.label rfl ?_ | refine VT.scope rfl ?_ | refine VT.exit rfl ?_ | refine VT.ret rfl ?_ | refine VT.condY rfl rfl (by first | assumption | omega) ?_ | refine VT.condN rfl rfl (by first | assumption | omega) ?_ | refine VT.condD rfl rfl (fun hc => ?_) (fun hc => ?_) | refine VT.cond rfl rfl (fun hc => ?_) (fun hc => ?_)))
          | (with_reducible first | refine kSn ?_ | refine kSr ?_ | refine kBn ?_ | refine kBr ?_ | refine kSe ?_ | refine kBe ?_ | refine kLn ?_ | refine kCn ?_ | refine kCr ?_ | refine kCe ?_ | refine kLr ?_ | refine kLe ?_)
          | with_reducible (refine kBx (by decide) ?_)
          | (with_reducible refine d_kEr ?_; refine kEr rfl ?_)
          | (with_reducible refine d_kEn ?_; refine kEn rfl ?_)))
      rfl
theorem m_RLess (a b c d : Int) (ha : a ≤ 9223372036854775807) (hb : b ≤ 9223372036854775807) (hc' : c ≤ 9223372036854775807) (hd : d ≤ 9223372036854775807) :
    Maps Tryz.prog 43 [dR (a, b), dR (c, d)] (.tup [wB (lessS2 (a, b) (c, d)).1, wI (lessS2 (a, b) (c, d)).2]) := by
  refine Maps.vt pok Tryz.f43 (n := 21) (rs := [.tmp 4, .tmp 5]) rfl rfl rfl rfl rfl rfl fun g => ?_
  have s1 := m_Rshare a b ha hb
  have s2 := m_Rshare c d hc' hd
  unfold lessS2
  cases q1 : shareS (a, b) with
  | false =>
    rw [q1] at s1
    cases q2 : shareS (c, d) with
    | false =>
      rw [q2] at s2
      repeat (any_goals (first
          | (apply w_any; (first | (apply w_nil; (first | refine RT.nil ?_)) | (apply w_g; (first | refine RT.gy rfl ?_ | refine RT.gn rfl rfl ?_ | refine RT.gu rfl ?_ | refine RT.gcY rfl rfl rfl (by first | assumption | omega) ?_ | refine RT.gcN rfl rfl rfl (by first | assumption | omega) ?_ | refine RT.gc rfl rfl rfl (fun hc => ?_) (fun hc => ?_) | refine RT.gb rfl rfl rfl (fun hc => ?_) (fun hc => ?_))) | (apply w_mv; (first | refine RT.mvA ?_ | refine RT.mvM ?_)) | (apply w_as; (first | refine RT.asA ?_ | refine RT.asM ?_)) | (apply w_ld; (first | refine RT.ldA ?_ | refine RT.ldH ?_)) | (apply w_cl; (first | (first | refine RT.callM rfl (s1) rfl rfl ?_ | refine RT.callM rfl (s1) (by first | (simp only [nrm]; rfl) | (simp only [nrm, Nat.reduceAdd, Nat.zero_add]; rfl) | rfl) rfl ?_) | (first | refine RT.callM rfl (s2) rfl rfl ?_ | refine RT.callM rfl (s2) (by first | (simp only [nrm]; rfl) | (simp only [nrm, Nat.reduceAdd, Nat.zero_add]; rfl) | rfl) rfl ?_) | refine RT.clA ?_ | refine RT.lnH ?_)) | (apply w_pk; (first | refine RT.pkA ?_)) | (apply w_un; (first | refine RT.unA ?_)) | (apply w_bx; (first | refine RT.nwA ?_))))
          | (apply v_any; (first | refine VT.seq rfl ?_ | refine VT.reg rfl ?_ | refine VT.condT rfl rfl ?_ | refine VT.condF rfl rfl ?_ | refine VT.block rfl ?_ | refine VT.skip rfl ?_ | refine VT.label rfl ?_ | refine VT.scope rfl ?_ | refine VT.exit rfl ?_ | refine VT.ret rfl ?_ | refine VT.condY rfl rfl (by first | assumption | omega) ?_ | refine VT.condN rfl rfl (by first | assumption | omega) ?_ | refine VT.condD rfl rfl (fun hc => ?_) (fun hc => ?_) | refine VT.cond rfl rfl (fun hc => ?_) (fun hc => ?_)))
          | (with_reducible first | refine kSn ?_ | refine kSr ?_ | refine kBn ?_ | refine kBr ?_ | refine kSe ?_ | refine kBe ?_ | refine kLn ?_ | refine kCn ?_ | refine kCr ?_ | refine kCe ?_ | refine kLr ?_ | refine kLe ?_)
          | with_reducible (refine kBx (by decide) ?_)
          | (with_reducible refine d_kEr ?_; refine kEr rfl ?_)
          | (with_reducible refine d_kEn ?_; refine kEn rfl ?_)))
      rfl
    | true =>
      rw [q2] at s2
      repeat (any_goals (first
          | (apply w_any; (first | (apply w_nil; (first | refine RT.nil ?_)) | (apply w_g; (first | refine RT.gy rfl ?_ | refine RT.gn rfl rfl ?_ | refine RT.gu rfl ?_ | refine RT.gcY rfl rfl rfl (by first | assumption | omega) ?_ | refine RT.gcN rfl rfl rfl (by first | assumption | omega) ?_ | refine RT.gc rfl rfl rfl (fun hc => ?_) (fun hc => ?_) | refine RT.gb rfl rfl rfl (fun hc => ?_) (fun hc => ?_))) | (apply w_mv; (first | refine RT.mvA ?_ | refine RT.mvM ?_)) | (apply w_as; (first | refine RT.asA ?_ | refine RT.asM ?_)) | (apply w_ld; (first | refine RT.ldA ?_ | refine RT.ldH ?_)) | (apply w_cl; (first | (first | refine RT.callM rfl (s1) rfl rfl ?_ | refine RT.callM rfl (s1) (by first | (simp only [nrm]; rfl) | (simp only [nrm, Nat.reduceAdd, Nat.zero_add]; rfl) | rfl) rfl ?_) | (first | refine RT.callM rfl (s2) rfl rfl ?_ | refine RT.callM rfl (s2) (by first | (simp only [nrm]; rfl) | (simp only [nrm, Nat.reduceAdd, Nat.zero_add]; rfl) | rfl) rfl ?_) | refine RT.clA ?_ | refine RT.lnH ?_)) | (apply w_pk; (first | refine RT.pkA ?_)) | (apply w_un; (first | refine RT.unA ?_)) | (apply w_bx; (first | refine RT.nwA ?_))))
          | (apply v_any; (first | refine VT.seq rfl ?_ | refine VT.reg rfl ?_ | refine VT.condT rfl rfl ?_ | refine VT.condF rfl rfl ?_ | refine VT.block rfl ?_ | refine VT.skip rfl ?_ | refine VT.label rfl ?_ | refine VT.scope rfl ?_ | refine VT.exit rfl ?_ | refine VT.ret rfl ?_ | refine VT.condY rfl rfl (by first | assumption | omega) ?_ | refine VT.condN rfl rfl (by first | assumption | omega) ?_ | refine VT.condD rfl rfl (fun hc => ?_) (fun hc => ?_) | refine VT.cond rfl rfl (fun hc => ?_) (fun hc => ?_)))
          | (with_reducible first | refine kSn ?_ | refine kSr ?_ | refine kBn ?_ | refine kBr ?_ | refine kSe ?_ | refine kBe ?_ | refine kLn ?_ | refine kCn ?_ | refine kCr ?_ | refine kCe ?_ | refine kLr ?_ | refine kLe ?_)
          | with_reducible (refine kBx (by decide) ?_)
          | (with_reducible refine d_kEr ?_; refine kEr rfl ?_)
          | (with_reducible refine d_kEn ?_; refine kEn rfl ?_)))
      rfl
  | true =>
    cases q2 : shareS (c, d) with
    | false =>
      rw [q1] at s1
      rw [q2] at s2
      repeat (any_goals (first
          | (apply w_any; (first | (apply w_nil; (first | refine RT.nil ?_)) | (apply w_g; (first | refine RT.gy rfl ?_ | refine RT.gn rfl rfl ?_ | refine RT.gu rfl ?_ | refine RT.gcY rfl rfl rfl (by first | assumption | omega) ?_ | refine RT.gcN rfl rfl rfl (by first | assumption | omega) ?_ | refine RT.gc rfl rfl rfl (fun hc => ?_) (fun hc => ?_) | refine RT.gb rfl rfl rfl (fun hc => ?_) (fun hc => ?_))) | (apply w_mv; (first | refine RT.mvA ?_ | refine RT.mvM ?_)) | (apply w_as; (first | refine RT.asA ?_ | refine RT.asM ?_)) | (apply w_ld; (first | refine RT.ldA ?_ | refine RT.ldH ?_)) | (apply w_cl; (first | (first | refine RT.callM rfl (s1) rfl rfl ?_ | refine RT.callM rfl (s1) (by first | (simp only [nrm]; rfl) | (simp only [nrm, Nat.reduceAdd, Nat.zero_add]; rfl) | rfl) rfl ?_) | (first | refine RT.callM rfl (s2) rfl rfl ?_ | refine RT.callM rfl (s2) (by first | (simp only [nrm]; rfl) | (simp only [nrm, Nat.reduceAdd, Nat.zero_add]; rfl) | rfl) rfl ?_) | refine RT.clA ?_ | refine RT.lnH ?_)) | (apply w_pk; (first | refine RT.pkA ?_)) | (apply w_un; (first | refine RT.unA ?_)) | (apply w_bx; (first | refine RT.nwA ?_))))
          | (apply v_any; (first | refine VT.seq rfl ?_ | refine VT.reg rfl ?_ | refine VT.condT rfl rfl ?_ | refine VT.condF rfl rfl ?_ | refine VT.block rfl ?_ | refine VT.skip rfl ?_ | refine VT.label rfl ?_ | refine VT.scope rfl ?_ | refine VT.exit rfl ?_ | refine VT.ret rfl ?_ | refine VT.condY rfl rfl (by first | assumption | omega) ?_ | refine VT.condN rfl rfl (by first | assumption | omega) ?_ | refine VT.condD rfl rfl (fun hc => ?_) (fun hc => ?_) | refine VT.cond rfl rfl (fun hc => ?_) (fun hc => ?_)))
          | (with_reducible first | refine kSn ?_ | refine kSr ?_ | refine kBn ?_ | refine kBr ?_ | refine kSe ?_ | refine kBe ?_ | refine kLn ?_ | refine kCn ?_ | refine kCr ?_ | refine kCe ?_ | refine kLr ?_ | refine kLe ?_)
          | with_reducible (refine kBx (by decide) ?_)
          | (with_reducible refine d_kEr ?_; refine kEr rfl ?_)
          | (with_reducible refine d_kEn ?_; refine kEn rfl ?_)))
      rfl
    | true =>
      rw [q1] at s1
      rw [q2] at s2
      rw [if_pos ⟨rfl, rfl⟩]
      obtain ⟨w1, w2, w3⟩ := shareS_iff.1 q1
      obtain ⟨w4, w5, w6⟩ := shareS_iff.1 q2
      have hl := m_Rless a b c d ⟨w2.1, by omega⟩ ⟨by omega, w1.2⟩ ⟨w5.1, by omega⟩ ⟨by omega, w4.2⟩
      repeat (any_goals (first
          | (apply w_any; (first | (apply w_nil; (first | refine RT.nil ?_)) | (apply w_g; (first | refine RT.gy rfl ?_ | refine RT.gn rfl rfl ?_ | refine RT.gu rfl ?_ | refine RT.gcY rfl rfl rfl (by first | assumption | omega) ?_ | refine RT.gcN rfl rfl rfl (by first | assumption | omega) ?_ | refine RT.gc rfl rfl rfl (fun hc => ?_) (fun hc => ?_) | refine RT.gb rfl rfl rfl (fun hc => ?_) (fun hc => ?_))) | (apply w_mv; (first | refine RT.mvA ?_ | refine RT.mvM ?_)) | (apply w_as; (first | refine RT.asA ?_ | refine RT.asM ?_)) | (apply w_ld; (first | refine RT.ldA ?_ | refine RT.ldH ?_)) | (apply w_cl; (first | (first | refine RT.callM rfl (s1) rfl rfl ?_ | refine RT.callM rfl (s1) (by first | (simp only [nrm]; rfl) | (simp only [nrm, Nat.reduceAdd, Nat.zero_add]; rfl) | rfl) rfl ?_) | (first | refine RT.callM rfl (s2) rfl rfl ?_ | refine RT.callM rfl (s2) (by first | (simp only [nrm]; rfl) | (simp only [nrm, Nat.reduceAdd, Nat.zero_add]; rfl) | rfl) rfl ?_) | (first | refine RT.callM rfl (hl) rfl rfl ?_ | refine RT.callM rfl (hl) (by first | (simp only [nrm]; rfl) | (simp only [nrm, Nat.reduceAdd, Nat.zero_add]; rfl) | rfl) rfl ?_) | refine RT.clA ?_ | refine RT.lnH ?_)) | (apply w_pk; (first | refine RT.pkA ?_)) | (apply w_un; (first | refine RT.unA ?_)) | (apply w_bx; (first | refine RT.nwA ?_))))
          | (apply v_any; (first | refine VT.seq rfl ?_ | refine VT.reg rfl ?_ | refine VT.condT rfl rfl ?_ | refine VT.condF rfl rfl ?_ | refine VT.block rfl ?_ | refine VT.skip rfl ?_ | refine VT.label rfl ?_ | refine VT.scope rfl ?_ | refine VT.exit rfl ?_ | refine VT.ret rfl ?_ | refine VT.condY rfl rfl (by first | assumption | omega) ?_ | refine VT.condN rfl rfl (by first | assumption | omega) ?_ | refine VT.condD rfl rfl (fun hc => ?_) (fun hc => ?_) | refine VT.cond rfl rfl (fun hc => ?_) (fun hc => ?_)))
          | (with_reducible first | refine kSn ?_ | refine kSr ?_ | refine kBn ?_ | refine kBr ?_ | refine kSe ?_ | refine kBe ?_ | refine kLn ?_ | refine kCn ?_ | refine kCr ?_ | refine kCe ?_ | refine kLr ?_ | refine kLe ?_)
          | with_reducible (refine kBx (by decide) ?_)
          | (with_reducible refine d_kEr ?_; refine kEr rfl ?_)
          | (with_reducible refine d_kEn ?_; refine kEn rfl ?_)))
      rfl
/-- THE LAW OF SHARES, given the chapter's examples. -/
theorem m_DeedShares (hh : Maps Tryz.prog 20 [] (wB true)) (a b c d : Int) (ha : a ≤ 9223372036854775807) (hb : b ≤ 9223372036854775807) (hc' : c ≤ 9223372036854775807) (hd : d ≤ 9223372036854775807) :
    Maps Tryz.prog 9 [dR (a, b), dR (c, d)] (wB true) := by
  refine Maps.vt pok Tryz.f9 (n := 56) (rs := [.tmp 4]) rfl rfl rfl rfl rfl rfl fun g => ?_
  have k1 := m_Add a b c d
  have k2 := m_RAdd a b c d ha hb hc' hd
  have k3 := m_Less a b c d
  have k4 := m_RLess a b c d ha hb hc' hd
  generalize addS (a, b) (c, d) = x at k1 k2
  generalize lessS2 (a, b) (c, d) = y at k3 k4
  obtain ⟨⟨x1, x2⟩, x3⟩ := x
  obtain ⟨y1, y2⟩ := y
  dsimp only at k1 k2 k3 k4
  have hag : aggEqD Tryz.prog 38 [wI x1, wI x2] [wI x1, wI x2] = some true := by rw [agg38]; simp
  repeat (any_goals (first
      | (apply w_any; (first | (apply w_nil; (first | refine RT.nil ?_)) | (apply w_g; (first | refine RT.gy rfl ?_ | refine RT.gn rfl rfl ?_ | refine RT.gu rfl ?_ | refine RT.gcY rfl rfl rfl (by first | assumption | omega) ?_ | refine RT.gcN rfl rfl rfl (by first | assumption | omega) ?_ | refine RT.gc rfl rfl rfl (fun hc => ?_) (fun hc => ?_) | refine RT.gb rfl rfl rfl (fun hc => ?_) (fun hc => ?_))) | (apply w_mv; (first | refine RT.mvA ?_ | refine RT.mvM ?_)) | (apply w_as; (first | refine RT.asA ?_ | refine RT.asM ?_)) | (apply w_ld; (first | refine RT.v (f_ldOA rfl rfl rfl rfl rfl (Nat.le_of_ble_eq_true rfl)) ?_ | refine RT.ldA ?_ | refine RT.ldH ?_)) | (apply w_fa; (first | refine RT.faA ?_)) | (apply w_bn; (first | refine RT.v (f_eqlT rfl rfl rfl) ?_ | refine RT.v (f_eqlB rfl rfl rfl) ?_ | refine RT.bnA ?_)) | (apply w_cl; (first | (first | refine RT.callM rfl (hh) rfl rfl ?_ | refine RT.callM rfl (hh) (by first | (simp only [nrm]; rfl) | (simp only [nrm, Nat.reduceAdd, Nat.zero_add]; rfl) | rfl) rfl ?_) | (first | refine RT.callM rfl (k1) rfl rfl ?_ | refine RT.callM rfl (k1) (by first | (simp only [nrm]; rfl) | (simp only [nrm, Nat.reduceAdd, Nat.zero_add]; rfl) | rfl) rfl ?_) | (first | refine RT.callM rfl (k2) rfl rfl ?_ | refine RT.callM rfl (k2) (by first | (simp only [nrm]; rfl) | (simp only [nrm, Nat.reduceAdd, Nat.zero_add]; rfl) | rfl) rfl ?_) | (first | refine RT.callM rfl (k3) rfl rfl ?_ | refine RT.callM rfl (k3) (by first | (simp only [nrm]; rfl) | (simp only [nrm, Nat.reduceAdd, Nat.zero_add]; rfl) | rfl) rfl ?_) | (first | refine RT.callM rfl (k4) rfl rfl ?_ | refine RT.callM rfl (k4) (by first | (simp only [nrm]; rfl) | (simp only [nrm, Nat.reduceAdd, Nat.zero_add]; rfl) | rfl) rfl ?_) | refine RT.clA ?_ | refine RT.lnH ?_)) | (apply w_pk; (first | refine RT.pkA ?_)) | (apply w_ex; (first | refine RT.exA ?_)) | (apply w_st; (first | refine RT.stA ?_ | refine RT.stH ?_)) | (apply w_al; (first | refine RT.nwA ?_)) | (apply w_bx; (first | refine RT.nwA ?_)) | refine RT.v (f_eqlAgg rfl rfl hag) ?_))
      | (apply v_any; (first | refine VT.seq rfl ?_ | refine VT.reg rfl ?_ | refine VT.condT rfl rfl ?_ | refine VT.condF rfl rfl ?_ | refine VT.block rfl ?_ | refine VT.skip rfl ?_ | refine VT.label rfl ?_ | refine VT.scope rfl ?_ | refine VT.exit rfl ?_ | refine VT.ret rfl ?_ | refine VT.condY rfl rfl (by first | assumption | omega) ?_ | refine VT.condN rfl rfl (by first | assumption | omega) ?_ | refine VT.condD rfl rfl (fun hc => ?_) (fun hc => ?_) | refine VT.cond rfl rfl (fun hc => ?_) (fun hc => ?_)))
      | (with_reducible first | refine kSn ?_ | refine kSr ?_ | refine kBn ?_ | refine kBr ?_ | refine kSe ?_ | refine kBe ?_ | refine kLn ?_ | refine kCn ?_ | refine kCr ?_ | refine kCe ?_ | refine kLr ?_ | refine kLe ?_)
      | with_reducible (refine kBx (by decide) ?_)
      | (with_reducible refine d_kEr ?_; refine kEr rfl ?_)
      | (with_reducible refine d_kEn ?_; refine kEn rfl ?_)))
  · rfl
  · exact absurd rfl hc
end Go.DL
