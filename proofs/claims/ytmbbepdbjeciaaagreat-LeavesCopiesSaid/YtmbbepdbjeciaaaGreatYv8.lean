/- The law: Join agrees with the reference. -/
import Derived.Test.YtmbbepdbjeciaaaGreatYv7
import Derived.Test.YtmbbepdbjeciaaaGreatE14
set_option maxRecDepth 100000
set_option maxHeartbeats 16000000
namespace Go.DL
open Go.Proofs Go
deriving instance DecidableEq for Leaf
theorem m_SameLeaves (a b : List Leaf) (hl : a.length ≤ 1000000) (hl' : b.length ≤ 1000000) (hw : ∀ x, x ∈ a → x.Words.length ≤ 1000000) (hw' : ∀ x, x ∈ b → x.Words.length ≤ 1000000) : Maps Tryz.prog 20 [.sl (a.map eLeaf), .sl (b.map eLeaf)] (wB (decide (a = b))) := by
  refine Maps.vt pok Tryz.f20 (n := 42) (rs := [.tmp 4]) rfl rfl rfl rfl rfl rfl fun g => ?_
  by_cases he : a.length = b.length
  · repeat (any_goals (first | (apply w_any; (first | refine RT.nil ?_ | refine RT.mvA ?_ | refine RT.asA ?_ | refine RT.bnA ?_ | refine RT.clA ?_)) | (apply v_any; (first | refine VT.seq rfl ?_ | refine VT.reg rfl ?_ | refine VT.block rfl ?_ | refine VT.skip rfl ?_ | refine VT.condN rfl rfl (by first | assumption | omega) ?_))))
    refine VT.loop (fun j al H g' => ∃ k : Nat, j = a.length - k ∧ k ≤ a.length ∧ a.take k = b.take k ∧ al = [(0, .sl (a.map eLeaf)), (1, .sl (b.map eLeaf)), (5, wI k)] ∧ H = [] ∧ g' = g) rfl
      ⟨_, _, _, ⟨0, rfl, Nat.zero_le _, rfl, rfl, rfl, rfl⟩, fgA⟩ ?_
    rintro j al H g' ⟨k, rfl, hk, hn, rfl, rfl, rfl⟩
    by_cases hlt : k < a.length
    · have hltb : k < b.length := by omega
      have hs := m_same a[k].Words b[k].Words (by have := hw _ (List.getElem_mem hlt); omega) (by have := hw' _ (List.getElem_mem hltb); omega)
      by_cases hnum : a[k].Number = b[k].Number
      · by_cases hws : a[k].Words = b[k].Words
        · rw [decide_eq_true hws] at hs
          have hab : a[k] = b[k] := by
            generalize a[k] = u at hnum hws
            generalize b[k] = v at hnum hws
            obtain ⟨un, uw⟩ := u
            obtain ⟨vn, vw⟩ := v
            simp only at hnum hws
            rw [hnum, hws]
          repeat (any_goals (first | (apply w_any; (first | refine RT.nil ?_ | refine RT.mvA ?_ | refine RT.asA ?_ | refine RT.bnA ?_ | refine RT.clA ?_)) | (apply v_any; (first | refine VT.seq rfl ?_ | refine VT.reg rfl ?_ | refine VT.condF rfl rfl ?_ | refine VT.block rfl ?_ | refine VT.skip rfl ?_ | refine VT.draw [(0, []), (0, []), (0, []), (0, []), (0, []), (0, []), (0, []), (0, []), (0, []), (0, []), (0, []), (0, []), (0, []), (0, []), (0, []), (0, []), (0, []), (0, []), (0, []), (0, []), (0, []), (0, []), (0, []), (0, []), (0, [])] 1 mixedOk rfl (by decide +kernel) (by decide +kernel) (by decide +kernel) (by first | (simp only [nrm]; rfl) | (simp only [nrm, Nat.reduceAdd, Nat.zero_add]; rfl) | rfl) (by first | (simp only [nrm]; rfl) | (simp only [nrm, Nat.reduceAdd, Nat.zero_add]; rfl) | rfl) ?_ | refine VT.condY rfl rfl (by first | assumption | omega) ?_)) | (apply q_any; (first | refine PT.done (by first | (simp only [nrm]; rfl) | (simp only [nrm, Nat.reduceAdd, Nat.zero_add]; rfl) | rfl) ?_ | refine PT.gy rfl ?_ | refine PT.mvA ?_ | refine PT.ldA ?_ | refine PT.faA ?_ | refine PT.v (f_neqF rfl rfl hnum) ?_ | refine PT.callG rfl (hs) rfl rfl ?_ | refine PT.pkA ?_ | (apply q_ix; (first | refine PT.v (f_ixL (l := a) (f := eLeaf) (k := k) rfl rfl rfl hlt rfl rfl) ?_ | refine PT.v (f_ixL (l := b) (f := eLeaf) (k := k) rfl rfl rfl hltb rfl rfl) ?_)) | refine PT.unA ?_)) | with_reducible (refine kLn ?_)))
          exact ⟨a.length - (k + 1), by omega, _, _, ⟨k + 1, rfl, hlt, by rw [List.take_succ_eq_append_getElem hlt, List.take_succ_eq_append_getElem hltb, hn, hab], rfl, rfl, rfl⟩, fgA⟩
        · rw [decide_eq_false hws] at hs
          have hne : a ≠ b := fun h => hws (by subst h; rfl)
          rw [decide_eq_false hne]
          repeat (any_goals (first | (apply w_any; (first | refine RT.nil ?_ | refine RT.mvA ?_ | refine RT.asA ?_ | refine RT.bnA ?_ | refine RT.clA ?_)) | (apply v_any; (first | refine VT.seq rfl ?_ | refine VT.reg rfl ?_ | refine VT.condT rfl rfl ?_ | refine VT.block rfl ?_ | refine VT.skip rfl ?_ | refine VT.ret rfl ?_ | refine VT.draw [(0, []), (0, []), (0, []), (0, []), (0, []), (0, []), (0, []), (0, []), (0, []), (0, []), (0, []), (0, []), (0, []), (0, []), (0, []), (0, []), (0, []), (0, []), (0, []), (0, []), (0, []), (0, []), (0, []), (0, []), (0, [])] 1 mixedOk rfl (by decide +kernel) (by decide +kernel) (by decide +kernel) (by first | (simp only [nrm]; rfl) | (simp only [nrm, Nat.reduceAdd, Nat.zero_add]; rfl) | rfl) (by first | (simp only [nrm]; rfl) | (simp only [nrm, Nat.reduceAdd, Nat.zero_add]; rfl) | rfl) ?_ | refine VT.condY rfl rfl (by first | assumption | omega) ?_)) | (apply q_any; (first | refine PT.done (by first | (simp only [nrm]; rfl) | (simp only [nrm, Nat.reduceAdd, Nat.zero_add]; rfl) | rfl) ?_ | refine PT.gy rfl ?_ | refine PT.mvA ?_ | refine PT.ldA ?_ | refine PT.faA ?_ | refine PT.v (f_neqF rfl rfl hnum) ?_ | refine PT.callG rfl (hs) rfl rfl ?_ | refine PT.pkA ?_ | (apply q_ix; (first | refine PT.v (f_ixL (l := a) (f := eLeaf) (k := k) rfl rfl rfl hlt rfl rfl) ?_ | refine PT.v (f_ixL (l := b) (f := eLeaf) (k := k) rfl rfl rfl hltb rfl rfl) ?_)) | refine PT.unA ?_)) | (with_reducible first | refine kSr ?_ | refine kBr ?_ | refine kLr ?_) | (with_reducible refine d_kEr ?_; refine kEr rfl ?_)))
          rfl
      · have hne : a ≠ b := fun h => hnum (by subst h; rfl)
        rw [decide_eq_false hne]
        repeat (any_goals (first | (apply w_any; (first | refine RT.nil ?_ | refine RT.mvA ?_ | refine RT.asA ?_ | refine RT.bnA ?_ | refine RT.clA ?_)) | (apply v_any; (first | refine VT.seq rfl ?_ | refine VT.reg rfl ?_ | refine VT.condT rfl rfl ?_ | refine VT.block rfl ?_ | refine VT.skip rfl ?_ | refine VT.ret rfl ?_ | refine VT.draw [(0, []), (0, []), (0, []), (0, []), (0, []), (0, []), (0, []), (0, []), (0, []), (0, []), (0, []), (0, []), (0, []), (0, []), (0, []), (0, []), (0, []), (0, []), (0, []), (0, []), (0, []), (0, []), (0, []), (0, []), (0, [])] 1 mixedOk rfl (by decide +kernel) (by decide +kernel) (by decide +kernel) (by first | (simp only [nrm]; rfl) | (simp only [nrm, Nat.reduceAdd, Nat.zero_add]; rfl) | rfl) (by first | (simp only [nrm]; rfl) | (simp only [nrm, Nat.reduceAdd, Nat.zero_add]; rfl) | rfl) ?_ | refine VT.condY rfl rfl (by first | assumption | omega) ?_)) | (apply q_any; (first | refine PT.done (by first | (simp only [nrm]; rfl) | (simp only [nrm, Nat.reduceAdd, Nat.zero_add]; rfl) | rfl) ?_ | refine PT.gn rfl rfl ?_ | refine PT.mvA ?_ | refine PT.ldA ?_ | refine PT.faA ?_ | refine PT.v (f_neqT rfl rfl hnum) ?_ | refine PT.pkA ?_ | (apply q_ix; (first | refine PT.v (f_ixL (l := a) (f := eLeaf) (k := k) rfl rfl rfl hlt rfl rfl) ?_ | refine PT.v (f_ixL (l := b) (f := eLeaf) (k := k) rfl rfl rfl hltb rfl rfl) ?_)))) | (with_reducible first | refine kSr ?_ | refine kBr ?_ | refine kLr ?_) | (with_reducible refine d_kEr ?_; refine kEr rfl ?_)))
        rfl
    · repeat (any_goals (first | (apply w_any; (first | refine RT.nil ?_ | refine RT.mvA ?_ | refine RT.asA ?_ | refine RT.bnA ?_ | refine RT.clA ?_)) | (apply v_any; (first | refine VT.seq rfl ?_ | refine VT.reg rfl ?_ | refine VT.exit rfl ?_ | refine VT.ret rfl ?_ | refine VT.condN rfl rfl (by first | assumption | omega) ?_)) | (with_reducible refine d_kEr ?_; refine kEr rfl ?_)))
      rw [List.take_of_length_le (by omega), List.take_of_length_le (by omega)] at hn
      rw [decide_eq_true hn]; rfl
  · repeat (any_goals (first | (apply w_any; (first | refine RT.nil ?_ | refine RT.mvA ?_ | refine RT.asA ?_ | refine RT.bnA ?_ | refine RT.clA ?_)) | (apply v_any; (first | refine VT.seq rfl ?_ | refine VT.reg rfl ?_ | refine VT.ret rfl ?_ | refine VT.condY rfl rfl (by first | assumption | omega) ?_)) | with_reducible (refine kSr ?_) | (with_reducible refine d_kEr ?_; refine kEr rfl ?_)))
    have : a ≠ b := fun h => he (by rw [h])
    rw [decide_eq_false this]; rfl
theorem m_Join (s : Shape) (cs : List (List Leaf)) (hc : cs.length ≤ 4611686018427387904) (hl : ∀ l, l ∈ cs → l.length ≤ 4611686018427387904) (hw : ∀ l, l ∈ cs → ∀ x, x ∈ l → x.Words.length ≤ 4611686018427387904) :
    Maps Tryz.prog 42 [dSh s, .sl (cs.map eLvs)] (.tup [.fl ((JoinS s cs).1.map eLeaf), wI (JoinS s cs).2]) := by
  refine Maps.vt pok Tryz.f42 (n := 34) (rs := [.tmp 4, .tmp 5]) rfl rfl rfl rfl rfl rfl fun g => ?_
  have hk := m_Check s
  unfold JoinS
  rcases CheckS_cases s with ⟨e, h⟩ | ⟨e, h⟩
  · rw [e] at hk ⊢
    rw [if_pos rfl]
    by_cases h5 : 5 < cs.length
    · rw [if_pos h5]
      repeat (any_goals (first | (apply w_any; (first | refine RT.nil ?_ | refine RT.mvA ?_ | refine RT.asA ?_ | refine RT.ldA ?_ | refine RT.bnA ?_ | (apply w_cl; (first | refine RT.callM rfl (hk) rfl rfl ?_ | refine RT.clA ?_)) | refine RT.nwA ?_)) | (apply v_any; (first | refine VT.seq rfl ?_ | refine VT.reg rfl ?_ | refine VT.condF rfl rfl ?_ | refine VT.skip rfl ?_ | refine VT.ret rfl ?_ | refine VT.condY rfl rfl (by first | assumption | omega) ?_)) | with_reducible (refine kSr ?_) | (with_reducible refine d_kEr ?_; refine kEr rfl ?_)))
      rfl
    · rw [if_neg h5]
      repeat (any_goals (first | (apply w_any; (first | refine RT.nil ?_ | refine RT.mvA ?_ | refine RT.asA ?_ | refine RT.ldA ?_ | refine RT.bnA ?_ | (apply w_cl; (first | refine RT.callM rfl (hk) rfl rfl ?_ | refine RT.clA ?_)) | refine RT.nwA ?_)) | (apply v_any; (first | refine VT.seq rfl ?_ | refine VT.reg rfl ?_ | refine VT.condF rfl rfl ?_ | refine VT.block rfl ?_ | refine VT.skip rfl ?_ | refine VT.condN rfl rfl (by first | assumption | omega) ?_))))
      refine VT.loop (fun j a H g' => ∃ (i : Nat), j = cs.length - i ∧ i ≤ cs.length ∧ ckAll s cs = ckAll s (cs.drop i) ∧ a = [(1, .sl (cs.map eLvs)), (2, .mp 0 0 0), (18, .sl (cs.map eLvs)), (19, wI cs.length), (20, wI i)] ∧ H = [.live 3 [eShape s]] ∧ g' = g) rfl
        ⟨_, _, _, ⟨0, rfl, Nat.zero_le _, rfl, rfl, rfl, rfl⟩, fgA⟩ ?_
      rintro j a H g' ⟨i, rfl, hi, hck, rfl, rfl, rfl⟩
      by_cases hlt : i < cs.length
      · have hcl := m_CheckLeaves s cs[i] (hl _ (List.getElem_mem hlt)) (hw _ (List.getElem_mem hlt))
        rw [List.drop_eq_getElem_cons hlt, ckAll] at hck
        by_cases hz : CheckLeavesS s cs[i] = 0
        · rw [if_pos hz] at hck
          rw [hz] at hcl
          repeat (any_goals (first | (apply w_any; (first | refine RT.nil ?_ | refine RT.mvA ?_ | refine RT.asA ?_ | refine RT.ldA ?_ | refine RT.bnA ?_ | refine RT.callM rfl (hcl) rfl rfl ?_ | refine RT.ixA ?_)) | (apply v_any; (first | refine VT.seq rfl ?_ | refine VT.reg rfl ?_ | refine VT.condF rfl rfl ?_ | refine VT.block rfl ?_ | refine VT.skip rfl ?_ | refine VT.condY rfl rfl (by first | assumption | omega) ?_)) | with_reducible (refine kLn ?_)))
          exact ⟨cs.length - (i + 1), by omega, _, _, ⟨i + 1, rfl, hlt, hck, rfl, rfl, rfl⟩, fgA⟩
        · rw [if_neg hz] at hck
          rw [hck, if_neg hz]
          repeat (any_goals (first | (apply w_any; (first | refine RT.nil ?_ | refine RT.mvA ?_ | refine RT.asA ?_ | refine RT.ldA ?_ | refine RT.bnA ?_ | refine RT.callM rfl (hcl) rfl rfl ?_ | refine RT.ixA ?_)) | (apply v_any; (first | refine VT.seq rfl ?_ | refine VT.reg rfl ?_ | refine VT.block rfl ?_ | refine VT.skip rfl ?_ | refine VT.ret rfl ?_ | refine VT.condY rfl rfl (by first | assumption | omega) ?_)) | (with_reducible first | refine kSr ?_ | refine kBr ?_ | refine kLr ?_) | (with_reducible refine d_kEr ?_; refine kEr rfl ?_)))
          rfl
      · obtain rfl : i = cs.length := by omega
        rw [List.drop_length, ckAll] at hck
        rw [if_pos hck]
        have hj := m_join s cs h (by omega) fun l hl => (lvs_of (ckAll_ok hck l hl)).2
        repeat (any_goals (first | (apply w_any; (first | refine RT.nil ?_ | refine RT.mvA ?_ | refine RT.asA ?_ | refine RT.ldA ?_ | refine RT.bnA ?_ | refine RT.callM rfl (hj) rfl rfl ?_)) | (apply v_any; (first | refine VT.seq rfl ?_ | refine VT.reg rfl ?_ | refine VT.exit rfl ?_ | refine VT.ret rfl ?_ | refine VT.condN rfl rfl (by first | assumption | omega) ?_)) | (with_reducible refine d_kEr ?_; refine kEr rfl ?_)))
        rfl
  · rw [e] at hk ⊢
    rw [if_neg (by decide)]
    repeat (any_goals (first | (apply w_any; (first | refine RT.nil ?_ | refine RT.mvA ?_ | refine RT.asA ?_ | refine RT.ldA ?_ | refine RT.bnA ?_ | refine RT.callM rfl (hk) rfl rfl ?_ | refine RT.nwA ?_)) | (apply v_any; (first | refine VT.seq rfl ?_ | refine VT.reg rfl ?_ | refine VT.condT rfl rfl ?_ | refine VT.ret rfl ?_)) | with_reducible (refine kSr ?_) | (with_reducible refine d_kEr ?_; refine kEr rfl ?_)))
    rfl
end Go.DL
