/- The law LeavesMend. -/
import Derived.Test.YtmbbepdbjeciaaaGreatYk
import Derived.Test.YtmbbepdbjeciaaaGreatZh
set_option maxRecDepth 100000
set_option maxHeartbeats 16000000
namespace Go.DL
open Go.Proofs Go

theorem m_RMend (s : Shape) (l : List Leaf) (hl : l.length ≤ 4611686018427387904) (hw : ∀ x, x ∈ l → x.Words.length ≤ 4611686018427387904) (hsm : CheckLeavesS s l = 0 → l.length ≤ 12) : Maps Tryz.prog 26 [dSh s, .sl (l.map eLeaf)] (dMR (MendS s l)) := by
  have hk := m_RCheckLeaves s l hl hw
  unfold MendS
  by_cases h0 : CheckLeavesS s l = 0
  · obtain ⟨hck, hv⟩ := lv_of h0 (hsm h0)
    rw [h0] at hk
    rw [if_pos h0]
    by_cases h1 : (l.length : Int) < s.Data
    · rw [if_pos h1]
      refine Maps.vt pok Tryz.f26 (n := 106) (rs := [.cell 4 46]) rfl rfl rfl rfl rfl rfl fun g => ?_
      repeat (any_goals (first | (refine d_RT ?_; (first | refine RT.nil ?_ | refine RT.mvA ?_ | refine RT.asA ?_ | refine RT.ldA ?_ | refine RT.faA ?_ | refine RT.bnA ?_ | (refine d_call ?_; (first | refine RT.callM rfl (hk) rfl rfl ?_ | refine RT.clA ?_)) | refine RT.stA ?_ | refine RT.nwA ?_ | refine RT.msA ?_)) | (refine d_VT ?_; (first | refine VT.seq rfl ?_ | refine VT.reg rfl ?_ | refine VT.condF rfl rfl ?_ | refine VT.condY rfl rfl (by first | assumption | omega) ?_ | refine VT.skip rfl ?_ | refine VT.ret rfl ?_)) | with_reducible (refine kSr ?_) | (with_reducible refine d_kEr ?_; refine kEr rfl ?_)))
      rfl
    · rw [if_neg h1]
      have hsn := shape_nat hck
      have hck2 := hck
      rw [hsn] at hck2
      have hk2 := hk
      rw [hsn] at hk2
      have hm := m_RMend0 (e := (l.length - s.Data.toNat) / 2) hck2 hv (by omega) (by omega) hk2 _ rfl
      rw [← hsn] at hm
      cases hc : colsM s.Data.toNat ((l.length - s.Data.toNat) / 2) l s.Width.toNat with
      | none =>
        rw [hc] at hm
        exact hm
      | some cs =>
        rw [hc] at hm
        dsimp only at hm ⊢
        split at hm
        · rename_i h2
          rw [if_pos h2]
          exact hm
        · rename_i h2
          rw [if_neg h2]
          exact hm
  · rw [if_neg h0]
    refine Maps.vt pok Tryz.f26 (n := 106) (rs := [.cell 4 46]) rfl rfl rfl rfl rfl rfl fun g => ?_
    repeat (any_goals (first | (refine d_RT ?_; (first | refine RT.nil ?_ | refine RT.mvA ?_ | refine RT.asA ?_ | refine RT.ldA ?_ | refine RT.bnA ?_ | refine RT.callM rfl (hk) rfl rfl ?_ | refine RT.stA ?_ | refine RT.nwA ?_ | refine RT.msA ?_)) | (refine d_VT ?_; (first | refine VT.seq rfl ?_ | refine VT.reg rfl ?_ | refine VT.condY rfl rfl (by first | assumption | omega) ?_ | refine VT.ret rfl ?_)) | with_reducible (refine kSr ?_) | (with_reducible refine d_kEr ?_; refine kEr rfl ?_)))
    rfl
theorem m_RSpare (s : Shape) (l : List Leaf) (hl : l.length ≤ 4611686018427387904) (hw : ∀ x, x ∈ l → x.Words.length ≤ 4611686018427387904) (hsm : CheckLeavesS s l = 0 → l.length ≤ 12) : Maps Tryz.prog 28 [dSh s, .sl (l.map eLeaf)] (.tup [wI (SpareS s l).1, wI (SpareS s l).2]) := by
  refine Maps.vt pok Tryz.f28 (n := 26) (rs := [.tmp 4, .tmp 5]) rfl rfl rfl rfl rfl rfl fun g => ?_
  have hm := m_RMend s l hl hw hsm
  have hwl := MendS_wrong s l
  have hd := MendS_data s l
  unfold SpareS
  generalize hr : MendS s l = r at *
  obtain ⟨⟨d, wr⟩, e⟩ := r
  dsimp only at *
  by_cases h0 : e = 0
  · subst h0
    obtain ⟨hck, h0⟩ := hd rfl
    have := hsm h0
    rw [if_pos rfl]
    repeat (any_goals (first | (refine d_RT ?_; (first | refine RT.nil ?_ | refine RT.mvA ?_ | refine RT.asA ?_ | refine RT.ldA ?_ | refine RT.faA ?_ | refine RT.bnA ?_ | (refine d_call ?_; (first | refine RT.callM rfl (hm) rfl rfl ?_ | refine RT.clA ?_)) | refine RT.stA ?_ | refine RT.nwA ?_)) | (refine d_VT ?_; (first | refine VT.seq rfl ?_ | refine VT.reg rfl ?_ | refine VT.condF rfl rfl ?_ | refine VT.skip rfl ?_ | refine VT.ret rfl ?_)) | (with_reducible refine d_kEr ?_; refine kEr rfl ?_)))
    rfl
  · rw [if_neg h0]
    repeat (any_goals (first | (refine d_RT ?_; (first | refine RT.nil ?_ | refine RT.mvA ?_ | refine RT.asA ?_ | refine RT.ldA ?_ | refine RT.faA ?_ | refine RT.bnA ?_ | refine RT.callM rfl (hm) rfl rfl ?_ | refine RT.stA ?_ | refine RT.nwA ?_)) | (refine d_VT ?_; (first | refine VT.seq rfl ?_ | refine VT.reg rfl ?_ | refine VT.draw [(0, []), (0, []), (0, []), (0, [])] 1 mixedOk rfl (by decide +kernel) (by decide +kernel) (by decide +kernel) (by first | (simp only [nrm]; rfl) | (simp only [nrm, Nat.reduceAdd, Nat.zero_add]; rfl) | rfl) (by first | (simp only [nrm]; rfl) | (simp only [nrm, Nat.reduceAdd, Nat.zero_add]; rfl) | rfl) ?_ | refine VT.condY rfl rfl (by first | assumption | omega) ?_ | refine VT.ret rfl ?_)) | (refine d_PT ?_; (first | refine PT.done (by first | (simp only [nrm]; rfl) | (simp only [nrm, Nat.reduceAdd, Nat.zero_add]; rfl) | rfl) ?_ | refine PT.asA ?_ | refine PT.ldA ?_ | refine PT.faA ?_)) | with_reducible (refine kSr ?_) | (with_reducible refine d_kEr ?_; refine kEr rfl ?_)))
    rfl
theorem m_sameRows (d : List (List Int)) (hl : d.length ≤ 1000) (hw : ∀ x, x ∈ d → x.length ≤ 1000) : Maps Tryz.prog 29 [.sl (d.map eRow), .sl (d.map eRow)] (wB true) := by
  refine Maps.vt pok Tryz.f29 (n := 27) (rs := [.tmp 4]) rfl rfl rfl rfl rfl rfl fun g => ?_
  repeat (any_goals (first | (refine d_RT ?_; (first | refine RT.nil ?_ | refine RT.mvA ?_ | refine RT.asA ?_ | refine RT.bnA ?_ | refine RT.clA ?_)) | (refine d_VT ?_; (first | refine VT.seq rfl ?_ | refine VT.reg rfl ?_ | refine VT.condN rfl rfl (by first | assumption | omega) ?_ | refine VT.block rfl ?_ | refine VT.skip rfl ?_))))
  refine VT.loop (fun j a H g' => ∃ k : Nat, j = d.length - k ∧ k ≤ d.length ∧ a = [(0, .sl (d.map eRow)), (1, .sl (d.map eRow)), (5, wI k)] ∧ H = [] ∧ g' = g) rfl
    ⟨_, _, _, ⟨0, rfl, Nat.zero_le _, rfl, rfl, rfl⟩, fgA⟩ ?_
  rintro j a H g' ⟨k, rfl, hk, rfl, rfl, rfl⟩
  by_cases hlt : k < d.length
  · have h1 := hw d[k] (List.getElem_mem hlt)
    have hs := m_same d[k] d[k] (by omega) (by omega)
    rw [decide_eq_true rfl] at hs
    repeat (any_goals (first | (refine d_RT ?_; (first | refine RT.nil ?_ | refine RT.mvA ?_ | refine RT.asA ?_ | refine RT.bnA ?_ | refine RT.clA ?_)) | (refine d_VT ?_; (first | refine VT.seq rfl ?_ | refine VT.reg rfl ?_ | refine VT.draw [(0, []), (0, []), (0, []), (0, []), (0, []), (0, []), (0, []), (0, []), (0, []), (0, [])] 1 mixedOk rfl (by decide +kernel) (by decide +kernel) (by decide +kernel) (by first | (simp only [nrm]; rfl) | (simp only [nrm, Nat.reduceAdd, Nat.zero_add]; rfl) | rfl) (by first | (simp only [nrm]; rfl) | (simp only [nrm, Nat.reduceAdd, Nat.zero_add]; rfl) | rfl) ?_ | refine VT.condF rfl rfl ?_ | refine VT.condY rfl rfl (by first | assumption | omega) ?_ | refine VT.block rfl ?_ | refine VT.skip rfl ?_)) | (refine d_PT ?_; (first | refine PT.done (by first | (simp only [nrm]; rfl) | (simp only [nrm, Nat.reduceAdd, Nat.zero_add]; rfl) | rfl) ?_ | refine PT.mvA ?_ | refine PT.ldA ?_ | refine PT.callG rfl (hs) rfl rfl ?_ | refine PT.ixA ?_ | refine PT.unA ?_)) | with_reducible (refine kLn ?_)))
    exact ⟨d.length - (k + 1), by omega, _, _, ⟨k + 1, rfl, hlt, rfl, rfl, rfl⟩, fgA⟩
  · repeat (any_goals (first | (refine d_RT ?_; (first | refine RT.nil ?_ | refine RT.mvA ?_ | refine RT.asA ?_ | refine RT.bnA ?_ | refine RT.clA ?_)) | (refine d_VT ?_; (first | refine VT.seq rfl ?_ | refine VT.reg rfl ?_ | refine VT.condN rfl rfl (by first | assumption | omega) ?_ | refine VT.exit rfl ?_ | refine VT.ret rfl ?_)) | (with_reducible refine d_kEr ?_; refine kEr rfl ?_)))
    rfl
theorem MendS_small (s : Shape) (l : List Leaf) : (MendS s l).1.1.length ≤ 1000 ∧ (∀ x, x ∈ (MendS s l).1.1 → x.length ≤ 1000) ∧ (MendS s l).1.2.length ≤ 1000 := by
  have hz : ∀ e : Int, ((([], []), e) : (List (List Int) × List Int) × Int).1.1.length ≤ 1000 ∧ (∀ x, x ∈ ((([], []), e) : (List (List Int) × List Int) × Int).1.1 → x.length ≤ 1000) ∧ ((([], []), e) : (List (List Int) × List Int) × Int).1.2.length ≤ 1000 := fun e => ⟨Nat.zero_le _, fun x h => (by cases h), Nat.zero_le _⟩
  unfold MendS
  by_cases h0 : CheckLeavesS s l = 0
  · rw [if_pos h0]
    have h40 : CkOk s ∧ l.length ≤ 40 := by
      unfold CheckLeavesS at h0
      rcases CheckS_cases s with ⟨e, hk⟩ | ⟨e, hk⟩
      · rw [if_pos e] at h0
        split at h0
        · cases h0
        · exact ⟨hk, by omega⟩
      · rw [if_neg (by omega), e] at h0; cases h0
    obtain ⟨hck, h40⟩ := h40
    split
    · exact hz _
    · cases hc : colsM s.Data.toNat ((l.length - s.Data.toNat) / 2) l s.Width.toNat with
      | none => exact hz _
      | some cs =>
        dsimp only
        split
        · have h1 := rowsM_dataW (k := s.Data.toNat) (by omega) (colsM_len hc)
          refine ⟨Nat.le_trans h1.1 (by decide), fun x hx => by have := (h1.2 x hx).1; omega, ?_⟩
          have h3 : l.length ≤ 1000 := by omega
          exact Nat.le_trans (DM.wrong_len _ _ _ _) h3
        · exact hz _
  · rw [if_neg h0]; exact hz _
theorem few_small {s : Shape} {l : List Leaf} (h : fewS l = true) (h0 : CheckLeavesS s l = 0) : l.length ≤ 12 := by
  simp only [fewS, Bool.and_eq_true, decide_eq_true_eq] at h
  unfold CheckLeavesS at h0
  rcases CheckS_cases s with ⟨e, hk⟩ | ⟨e, hk⟩
  · rw [if_pos e] at h0
    split at h0
    · cases h0
    · omega
  · rw [if_neg (by omega), e] at h0; cases h0
set_option maxHeartbeats 8000000 in
theorem m_LeavesMend (hh : Maps Tryz.prog 14 [] (wB true)) (s : Shape) (l : List Leaf) (hl : l.length ≤ 4611686018427387904) (hw : ∀ x, x ∈ l → x.Words.length ≤ 4611686018427387904) : Maps Tryz.prog 4 [dSh s, .sl (l.map eLeaf)] (wB true) := by
  refine Maps.vt pok Tryz.f4 (n := 79) (rs := [.tmp 4]) rfl rfl rfl rfl rfl rfl fun g => ?_
  have h1 := m_small1 s
  have h2 := m_few l hl
  cases q1 : SmallS s with
  | false =>
    rw [q1] at h1
    repeat (any_goals (first | (refine d_RT ?_; (first | refine RT.nil ?_ | refine RT.gn rfl rfl ?_ | refine RT.mvA ?_ | refine RT.asA ?_ | refine RT.ldA ?_ | (refine d_call ?_; (first | refine RT.callM rfl (hh) rfl rfl ?_ | refine RT.callM rfl (h1) rfl rfl ?_)) | refine RT.pkA ?_ | refine RT.unA ?_ | refine RT.nwA ?_)) | (refine d_VT ?_; (first | refine VT.seq rfl ?_ | refine VT.reg rfl ?_ | refine VT.condT rfl rfl ?_ | refine VT.ret rfl ?_)) | with_reducible (refine kSr ?_) | (with_reducible refine d_kEr ?_; refine kEr rfl ?_)))
    rfl
  | true =>
  cases q2 : fewS l with
  | false =>
    rw [q1] at h1; rw [q2] at h2
    repeat (any_goals (first | (refine d_RT ?_; (first | refine RT.nil ?_ | refine RT.gy rfl ?_ | refine RT.mvA ?_ | refine RT.asA ?_ | refine RT.ldA ?_ | (refine d_call ?_; (first | refine RT.callM rfl (hh) rfl rfl ?_ | refine RT.callM rfl (h1) rfl rfl ?_ | refine RT.callM rfl (h2) rfl rfl ?_)) | refine RT.pkA ?_ | refine RT.unA ?_ | refine RT.nwA ?_)) | (refine d_VT ?_; (first | refine VT.seq rfl ?_ | refine VT.reg rfl ?_ | refine VT.condT rfl rfl ?_ | refine VT.ret rfl ?_)) | with_reducible (refine kSr ?_) | (with_reducible refine d_kEr ?_; refine kEr rfl ?_)))
    rfl
  | true =>
    rw [q1] at h1; rw [q2] at h2
    have hsm : CheckLeavesS s l = 0 → l.length ≤ 12 := few_small q2
    obtain ⟨z1, z2, z3⟩ := MendS_small s l
    have w1 := m_Mend s l hl hw hsm
    have w2 := m_RMend s l hl hw hsm
    have w3 := m_Spare s l hl hw hsm
    have w4 := m_RSpare s l hl hw hsm
    generalize SpareS s l = sp at w3 w4
    obtain ⟨sa, sb⟩ := sp
    generalize MendS s l = r at w1 w2 z1 z2 z3
    obtain ⟨⟨d, wr⟩, e⟩ := r
    dsimp only at w1 w2 w3 w4 z1 z2 z3
    have hs := m_sameRows d z1 z2
    have hs2 := m_same wr wr (by omega) (by omega)
    rw [decide_eq_true rfl] at hs2
    change Maps Tryz.prog 26 [dSh s, .sl (l.map eLeaf)] (.agg [.fl (d.map eRow), .fl (wr.map eI), wI e]) at w2
    change Maps Tryz.prog 25 [dSh s, .sl (l.map eLeaf)] (.tup [.agg [.fl (d.map eRow), .fl (wr.map eI)], wI e]) at w1
    repeat (any_goals (first | (refine d_RT ?_; (first | refine RT.nil ?_ | refine RT.v (f_eqlT rfl rfl rfl) ?_ | refine RT.gy rfl ?_ | refine RT.mvA ?_ | refine RT.asA ?_ | refine RT.ldA ?_ | refine RT.faA ?_ | (refine d_call ?_; (first | refine RT.callM rfl (hh) rfl rfl ?_ | refine RT.callM rfl (h1) rfl rfl ?_ | refine RT.callM rfl (h2) rfl rfl ?_ | refine RT.callM rfl (w1) rfl rfl ?_ | refine RT.callM rfl (w2) rfl rfl ?_ | refine RT.callM rfl (w3) rfl rfl ?_ | refine RT.callM rfl (w4) rfl rfl ?_ | refine RT.callM rfl (hs) rfl rfl ?_ | refine RT.callM rfl (hs2) rfl rfl ?_)) | refine RT.pkA ?_ | refine RT.exA ?_ | refine RT.unA ?_ | refine RT.stA ?_ | refine RT.nwA ?_)) | (refine d_VT ?_; (first | refine VT.seq rfl ?_ | refine VT.reg rfl ?_ | refine VT.condF rfl rfl ?_ | refine VT.skip rfl ?_ | refine VT.ret rfl ?_)) | (with_reducible refine d_kEr ?_; refine kEr rfl ?_)))
    all_goals rfl
end Go.DL
