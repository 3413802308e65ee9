/- Both judges. -/
import Derived.Test.YtmbbepdbjeciaaaGreatYo
set_option linter.all false
set_option maxRecDepth 100000
set_option maxHeartbeats 16000000
namespace Go.DL
open Go.Proofs Go

theorem m_same1 (a b : List Int) (hl : a.length ≤ 4611686018427387904) (hl' : b.length ≤ 4611686018427387904) : Maps Tryz.prog 138 [.sl (a.map eI), .sl (b.map eI)] (wB (decide (a = b))) := by
  refine Maps.vt pok Tryz.f138 (n := 8) (rs := [.tmp 4]) rfl rfl rfl rfl rfl rfl fun g => ?_
  repeat (any_goals (first | (refine d_RT ?_; (first | refine RT.nil ?_ | refine RT.mvA ?_ | refine RT.asA ?_ | refine RT.callM rfl (m_equal a b hl hl') rfl rfl ?_)) | (refine d_VT ?_; (first | refine VT.seq rfl ?_ | refine VT.reg rfl ?_ | refine VT.ret rfl ?_)) | (with_reducible refine d_kEr ?_; refine kEr rfl ?_)))
  rfl
theorem m_eqf (a b : List (List Int)) (hl : a.length ≤ 4611686018427387904) (hl' : b.length ≤ 4611686018427387904) (ha : ∀ x, x ∈ a → x.length ≤ 4611686018427387904) (hb : ∀ x, x ∈ b → x.length ≤ 4611686018427387904) : Maps Tryz.prog 137 [.sl (a.map eRow), .sl (b.map eRow), .fn (.func 138) [] []] (wB (decide (a = b))) := by
  refine Maps.vt pok Tryz.f137 (n := 32) (rs := [.tmp 6]) rfl rfl rfl rfl rfl rfl fun g => ?_
  by_cases he : a.length = b.length
  · repeat (any_goals (first | (refine d_RT ?_; (first | refine RT.nil ?_ | refine RT.mvA ?_ | refine RT.asA ?_ | refine RT.bnA ?_ | refine RT.clA ?_)) | (refine d_VT ?_; (first | refine VT.seq rfl ?_ | refine VT.reg rfl ?_ | refine VT.condN rfl rfl (by first | assumption | omega) ?_ | refine VT.block rfl ?_ | refine VT.skip rfl ?_))))
    refine VT.loop (fun j al H g' => ∃ k : Nat, j = a.length - k ∧ k ≤ a.length ∧ a.take k = b.take k ∧ al = [(1, .sl (b.map eRow)), (2, .fn (.func 138) [] []), (15, .sl (a.map eRow)), (16, wI a.length), (17, wI k)] ∧ H = [] ∧ g' = g) rfl
      ⟨_, _, _, ⟨0, rfl, Nat.zero_le _, rfl, rfl, rfl, rfl⟩, fgA⟩ ?_
    rintro j al H g' ⟨k, rfl, hk, hn, rfl, rfl, rfl⟩
    by_cases hlt : k < a.length
    · have hlt2 : k < b.length := by omega
      have hs := m_same1 a[k] b[k] (ha _ (List.getElem_mem hlt)) (hb _ (List.getElem_mem hlt2))
      by_cases hc : a[k] = b[k]
      · rw [decide_eq_true hc] at hs
        repeat (any_goals (first | (refine d_RT ?_; (first | refine RT.nil ?_ | refine RT.mvA ?_ | refine RT.asA ?_ | refine RT.ldA ?_ | refine RT.bnA ?_ | refine RT.callM rfl (hs) rfl rfl ?_ | refine RT.ixA ?_ | refine RT.unA ?_)) | (refine d_VT ?_; (first | refine VT.seq rfl ?_ | refine VT.reg rfl ?_ | refine VT.condF rfl rfl ?_ | refine VT.condY rfl rfl (by first | assumption | omega) ?_ | refine VT.block rfl ?_ | refine VT.skip rfl ?_)) | with_reducible (refine kLn ?_)))
        exact ⟨a.length - (k + 1), by omega, _, _, ⟨k + 1, rfl, hlt, by rw [List.take_succ_eq_append_getElem hlt, List.take_succ_eq_append_getElem hlt2, hn, hc], rfl, rfl, rfl⟩, fgA⟩
      · rw [decide_eq_false hc] at hs
        repeat (any_goals (first | (refine d_RT ?_; (first | refine RT.nil ?_ | refine RT.mvA ?_ | refine RT.asA ?_ | refine RT.ldA ?_ | refine RT.bnA ?_ | refine RT.callM rfl (hs) rfl rfl ?_ | refine RT.ixA ?_ | refine RT.unA ?_)) | (refine d_VT ?_; (first | refine VT.seq rfl ?_ | refine VT.reg rfl ?_ | refine VT.condT rfl rfl ?_ | refine VT.condY rfl rfl (by first | assumption | omega) ?_ | refine VT.block rfl ?_ | refine VT.skip rfl ?_ | refine VT.ret rfl ?_)) | (with_reducible first | refine kSr ?_ | refine kBr ?_ | refine kLr ?_) | (with_reducible refine d_kEr ?_; refine kEr rfl ?_)))
        have : a ≠ b := fun h => hc (by subst h; rfl)
        rw [decide_eq_false this]; rfl
    · repeat (any_goals (first | (refine d_RT ?_; (first | refine RT.nil ?_ | refine RT.asA ?_ | refine RT.bnA ?_)) | (refine d_VT ?_; (first | refine VT.seq rfl ?_ | refine VT.reg rfl ?_ | refine VT.condN rfl rfl (by first | assumption | omega) ?_ | refine VT.exit rfl ?_ | refine VT.ret rfl ?_)) | (with_reducible refine d_kEr ?_; refine kEr rfl ?_)))
      rw [List.take_of_length_le (by omega), List.take_of_length_le (by omega)] at hn
      rw [decide_eq_true hn]; rfl
  · repeat (any_goals (first | (refine d_RT ?_; (first | refine RT.nil ?_ | refine RT.mvA ?_ | refine RT.asA ?_ | refine RT.bnA ?_ | refine RT.clA ?_)) | (refine d_VT ?_; (first | refine VT.seq rfl ?_ | refine VT.reg rfl ?_ | refine VT.condY rfl rfl (by first | assumption | omega) ?_ | refine VT.ret rfl ?_)) | with_reducible (refine kSr ?_) | (with_reducible refine d_kEr ?_; refine kEr rfl ?_)))
    have : a ≠ b := fun h => he (by rw [h])
    rw [decide_eq_false this]; rfl
theorem m_sameData (a b : List (List Int)) (hl : a.length ≤ 4611686018427387904) (hl' : b.length ≤ 4611686018427387904) (ha : ∀ x, x ∈ a → x.length ≤ 4611686018427387904) (hb : ∀ x, x ∈ b → x.length ≤ 4611686018427387904) : Maps Tryz.prog 85 [.sl (a.map eRow), .sl (b.map eRow)] (wB (decide (a = b))) := by
  refine Maps.vt pok Tryz.f85 (n := 8) (rs := [.tmp 4]) rfl rfl rfl rfl rfl rfl fun g => ?_
  repeat (any_goals (first | (refine d_RT ?_; (first | refine RT.nil ?_ | refine RT.mvA ?_ | refine RT.asA ?_ | refine RT.callM rfl (m_eqf a b hl hl' ha hb) rfl rfl ?_)) | (refine d_VT ?_; (first | refine VT.seq rfl ?_ | refine VT.reg rfl ?_ | refine VT.ret rfl ?_)) | (with_reducible refine d_kEr ?_; refine kEr rfl ?_)))
  rfl
abbrev dMi (d : List (List Int)) (wr : List Int) : D := .agg [.sl (d.map eRow), .sl (wr.map eI)]
theorem m_CheckMend (s : Shape) (l : List Leaf) (d : List (List Int)) (wr : List Int) (hl : l.length ≤ 4611686018427387904) (hw : ∀ x, x ∈ l → x.Words.length ≤ 4611686018427387904) (hsm : CheckLeavesS s l = 0 → l.length ≤ 12)
    (hd : d.length ≤ 4611686018427387904) (hdw : ∀ x, x ∈ d → x.length ≤ 4611686018427387904) (hwr : wr.length ≤ 4611686018427387904) : Maps Tryz.prog 31 [dSh s, .sl (l.map eLeaf), dMi d wr] (wI (JudgeS s l d wr)) := by
  have hk := m_CheckLeaves s l hl hw
  refine Maps.vt pok Tryz.f31 (n := 40) (rs := [.tmp 6]) rfl rfl rfl rfl rfl rfl fun g => ?_
  unfold JudgeS
  by_cases h0 : CheckLeavesS s l = 0
  · have hj := judge_iff (d := d) (wr := wr) h0 (hsm h0)
    have hm := m_Mend s l hl hw hsm
    obtain ⟨z1, z2, z3⟩ := MendS_small s l
    rw [h0] at hk
    rw [if_pos h0]
    generalize MendS s l = r at hm z1 z2 z3 hj
    obtain ⟨⟨D', W'⟩, e⟩ := r
    dsimp only at hm z1 z2 z3 hj
    change Maps Tryz.prog 25 [dSh s, .sl (l.map eLeaf)] (.tup [.agg [.fl (D'.map eRow), .fl (W'.map eI)], wI e]) at hm
    have hs1 := m_sameData D' d (by omega) hd (fun x hx => by have := z2 x hx; omega) hdw
    have hs2 := m_equal W' wr (by omega) hwr
    by_cases he : e = 0
    · by_cases hD : D' = d
      · rw [decide_eq_true hD] at hs1
        by_cases hW : W' = wr
        · rw [decide_eq_true hW] at hs2
          rw [if_pos (hj.1 ⟨he, hD, hW⟩)]
          repeat (any_goals (first | (refine d_RT ?_; (first | refine RT.nil ?_ | refine RT.v (f_neqF rfl rfl he) ?_ | refine RT.gy rfl ?_ | refine RT.mvA ?_ | refine RT.asA ?_ | refine RT.ldA ?_ | refine RT.faA ?_ | refine RT.bnA ?_ | (refine d_call ?_; (first | refine RT.callM rfl (hk) rfl rfl ?_ | refine RT.callM rfl (hm) rfl rfl ?_ | refine RT.callM rfl (hs1) rfl rfl ?_ | refine RT.callM rfl (hs2) rfl rfl ?_)) | refine RT.pkA ?_ | refine RT.exA ?_ | refine RT.unA ?_ | refine RT.stA ?_ | refine RT.nwA ?_)) | (refine d_VT ?_; (first | refine VT.seq rfl ?_ | refine VT.reg rfl ?_ | refine VT.condF rfl rfl ?_ | refine VT.skip rfl ?_ | refine VT.ret rfl ?_)) | (with_reducible refine d_kEr ?_; refine kEr rfl ?_)))
          rfl
        · rw [decide_eq_false hW] at hs2
          rw [if_neg fun h => hW (hj.2 h).2.2]
          repeat (any_goals (first | (refine d_RT ?_; (first | refine RT.nil ?_ | refine RT.v (f_neqF rfl rfl he) ?_ | refine RT.gy rfl ?_ | refine RT.mvA ?_ | refine RT.asA ?_ | refine RT.ldA ?_ | refine RT.faA ?_ | refine RT.bnA ?_ | (refine d_call ?_; (first | refine RT.callM rfl (hk) rfl rfl ?_ | refine RT.callM rfl (hm) rfl rfl ?_ | refine RT.callM rfl (hs1) rfl rfl ?_ | refine RT.callM rfl (hs2) rfl rfl ?_)) | refine RT.pkA ?_ | refine RT.exA ?_ | refine RT.unA ?_ | refine RT.stA ?_ | refine RT.nwA ?_)) | (refine d_VT ?_; (first | refine VT.seq rfl ?_ | refine VT.reg rfl ?_ | refine VT.condT rfl rfl ?_ | refine VT.condF rfl rfl ?_ | refine VT.skip rfl ?_ | refine VT.ret rfl ?_)) | with_reducible (refine kSr ?_) | (with_reducible refine d_kEr ?_; refine kEr rfl ?_)))
          rfl
      · rw [decide_eq_false hD] at hs1
        rw [if_neg fun h => hD (hj.2 h).2.1]
        repeat (any_goals (first | (refine d_RT ?_; (first | refine RT.nil ?_ | refine RT.v (f_neqF rfl rfl he) ?_ | (refine d_g ?_; (first | refine RT.gy rfl ?_ | refine RT.gn rfl rfl ?_)) | refine RT.mvA ?_ | refine RT.asA ?_ | refine RT.ldA ?_ | refine RT.faA ?_ | refine RT.bnA ?_ | (refine d_call ?_; (first | refine RT.callM rfl (hk) rfl rfl ?_ | refine RT.callM rfl (hm) rfl rfl ?_ | refine RT.callM rfl (hs1) rfl rfl ?_)) | refine RT.pkA ?_ | refine RT.exA ?_ | refine RT.unA ?_ | refine RT.stA ?_ | refine RT.nwA ?_)) | (refine d_VT ?_; (first | refine VT.seq rfl ?_ | refine VT.reg rfl ?_ | refine VT.condT rfl rfl ?_ | refine VT.condF rfl rfl ?_ | refine VT.skip rfl ?_ | refine VT.ret rfl ?_)) | with_reducible (refine kSr ?_) | (with_reducible refine d_kEr ?_; refine kEr rfl ?_)))
        rfl
    · rw [if_neg fun h => he (hj.2 h).1]
      repeat (any_goals (first | (refine d_RT ?_; (first | refine RT.nil ?_ | refine RT.v (f_neqT rfl rfl he) ?_ | refine RT.gn rfl rfl ?_ | refine RT.mvA ?_ | refine RT.asA ?_ | refine RT.ldA ?_ | refine RT.bnA ?_ | (refine d_call ?_; (first | refine RT.callM rfl (hk) rfl rfl ?_ | refine RT.callM rfl (hm) rfl rfl ?_)) | refine RT.pkA ?_ | refine RT.exA ?_ | refine RT.stA ?_ | refine RT.nwA ?_)) | (refine d_VT ?_; (first | refine VT.seq rfl ?_ | refine VT.reg rfl ?_ | refine VT.condT rfl rfl ?_ | refine VT.condF rfl rfl ?_ | refine VT.skip rfl ?_ | refine VT.ret rfl ?_)) | with_reducible (refine kSr ?_) | (with_reducible refine d_kEr ?_; refine kEr rfl ?_)))
      rfl
  · rw [if_neg h0]
    repeat (any_goals (first | (refine d_RT ?_; (first | refine RT.nil ?_ | refine RT.mvA ?_ | refine RT.asA ?_ | refine RT.ldA ?_ | refine RT.bnA ?_ | refine RT.callM rfl (hk) rfl rfl ?_ | refine RT.nwA ?_)) | (refine d_VT ?_; (first | refine VT.seq rfl ?_ | refine VT.reg rfl ?_ | refine VT.condY rfl rfl (by first | assumption | omega) ?_ | refine VT.ret rfl ?_)) | with_reducible (refine kSr ?_) | (with_reducible refine d_kEr ?_; refine kEr rfl ?_)))
    rfl
section
variable {P : Program} {H : List Blk} {s n : Nat} {al : AL} {tx ty' : TypeId} {x y : Operand} {a b : Int}
end
theorem m_RCheckMend (s : Shape) (l : List Leaf) (d : List (List Int)) (wr : List Int) (hl : l.length ≤ 4611686018427387904) (hw : ∀ x, x ∈ l → x.Words.length ≤ 4611686018427387904) (hsm : CheckLeavesS s l = 0 → l.length ≤ 12)
    (hd : d.length ≤ 4611686018427387904) (hdw : ∀ x, x ∈ d → x.length ≤ 4611686018427387904) (hwr : wr.length ≤ 100000) : Maps Tryz.prog 32 [dSh s, .sl (l.map eLeaf), dMi d wr] (wI (JudgeS s l d wr)) := by
  have hk := m_RCheckLeaves s l hl hw
  refine Maps.vt pok Tryz.f32 (n := 42) (rs := [.tmp 6]) rfl rfl rfl rfl rfl rfl fun g => ?_
  unfold JudgeS
  by_cases h0 : CheckLeavesS s l = 0
  · obtain ⟨hck, hv⟩ := lv_of h0 (hsm h0)
    have hl12 := hsm h0
    have ha := m_RData s d hd hdw
    rw [h0] at hk
    rw [if_pos h0]
    cases q : DataS s d with
    | false =>
      rw [if_neg (by simp)]
      rw [q] at ha
      repeat (any_goals (first | (refine d_RT ?_; (first | refine RT.nil ?_ | refine RT.mvA ?_ | refine RT.asA ?_ | refine RT.ldA ?_ | refine RT.bnA ?_ | refine RT.callM rfl (hk) rfl rfl ?_ | refine RT.nwA ?_)) | (refine d_VT ?_; (first | refine VT.seq rfl ?_ | refine VT.reg rfl ?_ | refine VT.draw [(0, []), (0, []), (0, []), (0, []), (0, []), (0, []), (0, []), (0, []), (0, []), (0, []), (0, []), (0, []), (0, []), (0, []), (0, []), (0, []), (0, []), (0, []), (0, []), (0, []), (0, []), (0, []), (0, []), (0, []), (0, []), (0, []), (0, []), (0, [])] 1 mixedOk rfl (by decide +kernel) (by decide +kernel) (by decide +kernel) (by first | (simp only [nrm]; rfl) | (simp only [nrm, Nat.reduceAdd, Nat.zero_add]; rfl) | rfl) (by first | (simp only [nrm]; rfl) | (simp only [nrm, Nat.reduceAdd, Nat.zero_add]; rfl) | rfl) ?_ | refine VT.condT rfl rfl ?_ | refine VT.condF rfl rfl ?_ | refine VT.skip rfl ?_ | refine VT.ret rfl ?_)) | (refine d_PT ?_; (first | refine PT.done (by first | (simp only [nrm]; rfl) | (simp only [nrm, Nat.reduceAdd, Nat.zero_add]; rfl) | rfl) ?_ | refine PT.gn rfl rfl ?_ | refine PT.mvA ?_ | refine PT.ldA ?_ | refine PT.faA ?_ | refine PT.callG rfl (ha) rfl rfl ?_ | refine PT.pkA ?_ | refine PT.unA ?_)) | with_reducible (refine kSr ?_) | (with_reducible refine d_kEr ?_; refine kEr rfl ?_)))
      rfl
    | true =>
      rw [q] at ha
      have hsn := shape_nat hck
      have hck2 := hck
      rw [hsn] at hck2
      have hwrong := m_rwrong (l := l) (d := d) hck2 (dataW_of hck q) (by omega) (fun x hx => by have := (hv.wl x hx).1; have := hv.w2; omega)
      rw [← hsn] at hwrong
      have hwl : (wrongM (wholeL (s.Data.toNat + s.Checks.toNat) s.Width.toNat d) l (s.Data.toNat + s.Checks.toNat)).length ≤ l.length := DM.wrong_len _ _ _ _
      generalize wrongM (wholeL (s.Data.toNat + s.Checks.toNat) s.Width.toNat d) l (s.Data.toNat + s.Checks.toNat) = w2 at hwrong hwl
      have hs := m_same wr w2 (by omega) (by omega)
      by_cases hW : wr = w2
      · rw [decide_eq_true hW] at hs
        by_cases h2 : 2 * (wr.length : Int) + s.Data ≤ l.length
        · rw [if_pos ⟨rfl, hW, h2⟩]
          repeat (any_goals (first | (refine d_RT ?_; (first | refine RT.nil ?_ | refine RT.mvA ?_ | refine RT.asA ?_ | refine RT.ldA ?_ | refine RT.bnA ?_ | refine RT.callM rfl (hk) rfl rfl ?_ | refine RT.nwA ?_)) | (refine d_VT ?_; (first | refine VT.seq rfl ?_ | refine VT.reg rfl ?_ | refine VT.draw [(0, []), (0, []), (0, []), (0, []), (0, []), (0, []), (0, []), (0, []), (0, []), (0, []), (0, []), (0, []), (0, []), (0, []), (0, []), (0, []), (0, []), (0, []), (0, []), (0, []), (0, []), (0, []), (0, []), (0, []), (0, []), (0, []), (0, []), (0, [])] 1 mixedOk rfl (by decide +kernel) (by decide +kernel) (by decide +kernel) (by first | (simp only [nrm]; rfl) | (simp only [nrm, Nat.reduceAdd, Nat.zero_add]; rfl) | rfl) (by first | (simp only [nrm]; rfl) | (simp only [nrm, Nat.reduceAdd, Nat.zero_add]; rfl) | rfl) ?_ | refine VT.condF rfl rfl ?_ | refine VT.skip rfl ?_ | refine VT.ret rfl ?_)) | (refine d_PT ?_; (first | refine PT.done (by first | (simp only [nrm]; rfl) | (simp only [nrm, Nat.reduceAdd, Nat.zero_add]; rfl) | rfl) ?_ | refine PT.v (f_gtrF rfl rfl (by omega)) ?_ | refine PT.gy rfl ?_ | refine PT.mvA ?_ | refine PT.ldA ?_ | refine PT.faA ?_ | refine PT.bnA ?_ | (refine p_call ?_; (first | refine PT.callG rfl (ha) rfl rfl ?_ | refine PT.callG rfl (hwrong) rfl rfl ?_ | refine PT.callG rfl (hs) rfl rfl ?_ | refine PT.clA ?_)) | refine PT.pkA ?_ | refine PT.unA ?_)) | (with_reducible refine d_kEr ?_; refine kEr rfl ?_)))
          rfl
        · rw [if_neg fun h => h2 h.2.2]
          repeat (any_goals (first | (refine d_RT ?_; (first | refine RT.nil ?_ | refine RT.mvA ?_ | refine RT.asA ?_ | refine RT.ldA ?_ | refine RT.bnA ?_ | refine RT.callM rfl (hk) rfl rfl ?_ | refine RT.nwA ?_)) | (refine d_VT ?_; (first | refine VT.seq rfl ?_ | refine VT.reg rfl ?_ | refine VT.draw [(0, []), (0, []), (0, []), (0, []), (0, []), (0, []), (0, []), (0, []), (0, []), (0, []), (0, []), (0, []), (0, []), (0, []), (0, []), (0, []), (0, []), (0, []), (0, []), (0, []), (0, []), (0, []), (0, []), (0, []), (0, []), (0, []), (0, []), (0, [])] 1 mixedOk rfl (by decide +kernel) (by decide +kernel) (by decide +kernel) (by first | (simp only [nrm]; rfl) | (simp only [nrm, Nat.reduceAdd, Nat.zero_add]; rfl) | rfl) (by first | (simp only [nrm]; rfl) | (simp only [nrm, Nat.reduceAdd, Nat.zero_add]; rfl) | rfl) ?_ | refine VT.condT rfl rfl ?_ | refine VT.condF rfl rfl ?_ | refine VT.skip rfl ?_ | refine VT.ret rfl ?_)) | (refine d_PT ?_; (first | refine PT.done (by first | (simp only [nrm]; rfl) | (simp only [nrm, Nat.reduceAdd, Nat.zero_add]; rfl) | rfl) ?_ | refine PT.v (f_gtrT rfl rfl (by omega)) ?_ | refine PT.gy rfl ?_ | refine PT.mvA ?_ | refine PT.ldA ?_ | refine PT.faA ?_ | refine PT.bnA ?_ | (refine p_call ?_; (first | refine PT.callG rfl (ha) rfl rfl ?_ | refine PT.callG rfl (hwrong) rfl rfl ?_ | refine PT.callG rfl (hs) rfl rfl ?_ | refine PT.clA ?_)) | refine PT.pkA ?_ | refine PT.unA ?_)) | with_reducible (refine kSr ?_) | (with_reducible refine d_kEr ?_; refine kEr rfl ?_)))
          rfl
      · rw [decide_eq_false hW] at hs
        rw [if_neg fun h => hW h.2.1]
        repeat (any_goals (first | (refine d_RT ?_; (first | refine RT.nil ?_ | refine RT.mvA ?_ | refine RT.asA ?_ | refine RT.ldA ?_ | refine RT.bnA ?_ | refine RT.callM rfl (hk) rfl rfl ?_ | refine RT.nwA ?_)) | (refine d_VT ?_; (first | refine VT.seq rfl ?_ | refine VT.reg rfl ?_ | refine VT.draw [(0, []), (0, []), (0, []), (0, []), (0, []), (0, []), (0, []), (0, []), (0, []), (0, []), (0, []), (0, []), (0, []), (0, []), (0, []), (0, []), (0, []), (0, []), (0, []), (0, []), (0, []), (0, []), (0, []), (0, []), (0, []), (0, []), (0, []), (0, [])] 1 mixedOk rfl (by decide +kernel) (by decide +kernel) (by decide +kernel) (by first | (simp only [nrm]; rfl) | (simp only [nrm, Nat.reduceAdd, Nat.zero_add]; rfl) | rfl) (by first | (simp only [nrm]; rfl) | (simp only [nrm, Nat.reduceAdd, Nat.zero_add]; rfl) | rfl) ?_ | refine VT.condT rfl rfl ?_ | refine VT.condF rfl rfl ?_ | refine VT.skip rfl ?_ | refine VT.ret rfl ?_)) | (refine d_PT ?_; (first | refine PT.done (by first | (simp only [nrm]; rfl) | (simp only [nrm, Nat.reduceAdd, Nat.zero_add]; rfl) | rfl) ?_ | (refine p_g ?_; (first | refine PT.gy rfl ?_ | refine PT.gn rfl rfl ?_)) | refine PT.mvA ?_ | refine PT.ldA ?_ | refine PT.faA ?_ | (refine p_call ?_; (first | refine PT.callG rfl (ha) rfl rfl ?_ | refine PT.callG rfl (hwrong) rfl rfl ?_ | refine PT.callG rfl (hs) rfl rfl ?_)) | refine PT.pkA ?_ | refine PT.unA ?_)) | with_reducible (refine kSr ?_) | (with_reducible refine d_kEr ?_; refine kEr rfl ?_)))
        rfl
  · rw [if_neg h0]
    repeat (any_goals (first | (refine d_RT ?_; (first | refine RT.nil ?_ | refine RT.mvA ?_ | refine RT.asA ?_ | refine RT.ldA ?_ | refine RT.bnA ?_ | refine RT.callM rfl (hk) rfl rfl ?_ | refine RT.nwA ?_)) | (refine d_VT ?_; (first | refine VT.seq rfl ?_ | refine VT.reg rfl ?_ | refine VT.condY rfl rfl (by first | assumption | omega) ?_ | refine VT.ret rfl ?_)) | with_reducible (refine kSr ?_) | (with_reducible refine d_kEr ?_; refine kEr rfl ?_)))
    rfl
end Go.DL
