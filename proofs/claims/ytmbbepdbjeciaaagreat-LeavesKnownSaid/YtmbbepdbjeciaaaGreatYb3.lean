/- Digest at any length; the law LeavesKnown. -/
import Derived.Test.YtmbbepdbjeciaaaGreatYb2
set_option maxRecDepth 100000
set_option maxHeartbeats 16000000
namespace Go.DL
open Go.Proofs Go
theorem m_DigestG {l y : List Line} (h : LinesOk l) (hy : ∀ z, LSrt z → z.Perm l → z = y) : Maps Tryz.prog 41 [.sl (l.map eLine)] (.tup [wI (digS (wordsS y)), wI 0]) := by
  refine Maps.vt pok Tryz.f41 (n := 17) (rs := [.tmp 2, .tmp 3]) rfl rfl rfl rfl rfl rfl fun g => ?_
  have h60 := h.1
  have hc := m_CheckLines l (by omega)
  rw [(checkLines_iff l).2 h] at hc
  repeat (any_goals (first | (apply w_any; (first | refine RT.nil ?_ | refine RT.mvA ?_ | refine RT.asA ?_ | refine RT.bnA ?_ | (apply w_cl; (first | (refine d_call ?_; refine RT.callG rfl ((c_sortedL (.inr (.inl ⟨_, rfl⟩)) (helmL _ _) (by omega)).mono ?_)) | refine RT.callM rfl (hc) rfl rfl ?_ | refine RT.callS rfl (c_power _ 7) rfl (by first | (simp only [nrm]; rfl) | (simp only [nrm, Nat.reduceAdd, Nat.zero_add]; rfl) | rfl) (by first | (simp only [nrm]; rfl) | (simp only [nrm, Nat.reduceAdd, Nat.zero_add]; rfl) | rfl) ?_)) | refine RT.stA ?_ | refine RT.nwA ?_)) | (apply v_any; (first | refine VT.seq rfl ?_ | refine VT.reg rfl ?_ | refine VT.condF rfl rfl ?_ | refine VT.skip rfl ?_))))
  rintro d H4 ⟨rfl, y', hy', hp', rfl⟩
  obtain rfl := hy y' hy' hp'
  have hm : l.length = y'.length := hp'.length_eq.symm
  obtain ⟨Hc, hHc⟩ : ∃ Hc, Hc = [Blk.live 1 [[wI 7]], .live 1 [[D.fn (.func 143) [] [.mp 0 0 0]]], .dead, .live 4 (y'.map eLine)] := ⟨_, rfl⟩
  change RT _ _ _ _ ((13, D.ms 3 0 l.length l.length) :: (12, _) :: (5, D.mp 1 0 0) :: _) ([Blk.live 1 [[wI 7]], .live 1 [[D.fn (.func 143) [] [.mp 0 0 0]]], .dead, .live 4 (y'.map eLine)]) _ _
  rw [← hHc]
  have e0 : ∀ X, (Hc ++ X)[0]? = some (.live 1 [[wI 7]]) := fun X => by rw [hHc]; rfl
  have e1 : ∀ X, (Hc ++ X)[1]? = some (.live 1 [[D.fn (.func 143) [] [.mp 0 0 0]]]) := fun X => by rw [hHc]; rfl
  have e3 : Hc[3]? = some (.live 4 (y'.map eLine)) := by rw [hHc]; rfl
  have hok := h.perm hp'
  have hw := c_wordsH (H := Hc) (x := .ms 3 0 l.length l.length) (l := y') (snapLn e3 hm) (by omega) hok.ok
  have hl7 := words_len1 (l := y') (by omega)
  generalize hws : wordsS y' = w at hw hl7 ⊢
  have hW : ∀ x, x ∈ w → W x := by rw [← hws]; exact words_W hok
  have hs : ([.ms (Hc.length + 1) 0 w.length w.length, .fn (.func 100) [] [.mp 1 0 0]] : List D).map (snap (fun b => (Hc ++ [.dead, .live 1 (w.map eI)])[b]?) 5) = [.sl (w.map eI), fnD] := by
    have h2 : (Hc ++ [.dead, .live 1 (w.map eI)])[Hc.length + 1]? = some (.live 1 (w.map eI)) := by
      rw [List.getElem?_append_right (by omega), Nat.add_sub_cancel_left]; rfl
    have h3 : snap (fun b => (Hc ++ [.dead, .live 1 (w.map eI)])[b]?) 5 (.ms (Hc.length + 1) 0 w.length w.length) = .sl (w.map eI) := snapW (k := 4) h2 rfl
    rw [List.map_cons, h3]
    simp only [List.map_cons, List.map_nil, snap, e1, e0, List.getElem?_cons_zero, List.drop_zero]
  repeat (any_goals (first | (apply w_any; (first | refine RT.nil ?_ | refine RT.asA ?_ | (apply w_cl; (first | (refine d_call ?_; refine RT.callS rfl hw rfl rfl rfl ?_) | (refine d_call ?_; refine RT.callM rfl (m_sumD w hW (by omega)) hs rfl ?_))) | refine RT.msA ?_)) | refine VT.ret rfl ?_ | (with_reducible refine d_kEr ?_; refine kEr rfl ?_)))
  rfl
def DigS (l : List Line) : Int × Int := if CheckLinesS l = 0 then (digS (wordsS (sortL l)), 0) else (0, CheckLinesS l)
theorem m_DigestE (l : List Line) (hl : l.length ≤ 1000000) : Maps Tryz.prog 41 [.sl (l.map eLine)] (.tup [wI (DigS l).1, wI (DigS l).2]) := by
  unfold DigS
  by_cases h : CheckLinesS l = 0
  · rw [if_pos h]
    have hok := (checkLines_iff l).1 h
    exact m_DigestG hok fun z hz hp => sortL_one hok.noFk hz hp
  · rw [if_neg h]
    exact m_DigestNo h hl
/-! ### the document's -/
theorem dsum_horner : ∀ (w : List Int) (i : Nat), DM.Cg (dsum i w) ((DM.powN 7 i : Nat) * horner w 7)
  | [], i => ⟨0, by simp [dsum, horner]⟩
  | x :: r, i => by
    have ih := dsum_horner r (i + 1)
    have e1 : horner (x :: r) 7 = (horner r 7 * 7 + x) % 65521 := rfl
    rw [dsum, e1]
    have h1 : DM.Cg ((DM.powN 7 (i + 1) : Nat) : Int) ((DM.powN 7 i : Nat) * 7) := by
      unfold DM.powN
      rw [DM.cg_iff, Nat.pow_succ]
      generalize 7 ^ i = n
      omega
    have h2 : DM.Cg ((DM.powN 7 i : Nat) * ((horner r 7 * 7 + x) % 65521)) ((DM.powN 7 i : Nat) * (horner r 7 * 7 + x)) := (DM.Cg.refl _).mul (DM.Cg.mod _)
    refine DM.Cg.trans ?_ h2.symm
    have h3 : DM.Cg (x * (DM.powN 7 i : Nat) + dsum (i + 1) r) (x * (DM.powN 7 i : Nat) + ((DM.powN 7 i : Nat) * 7) * horner r 7) := (DM.Cg.refl _).add (ih.trans (h1.mul (DM.Cg.refl _)))
    refine h3.trans (DM.Cg.of_eq ?_)
    rw [Int.mul_add, Int.mul_comm x, Int.add_comm, Int.mul_assoc, Int.mul_comm 7]
theorem horner_dig (w : List Int) : horner w 7 = digS w := by
  have h := dsum_horner w 0
  have e : ((DM.powN 7 0 : Nat) : Int) = 1 := rfl
  rw [e, Int.one_mul, DM.cg_iff] at h
  have hW := horner_W w 7
  unfold W at hW
  unfold digS
  omega
theorem m_RDigestE (l : List Line) (hl : l.length ≤ 1000000) : Maps Tryz.prog 53 [.sl (l.map eLine)] (.tup [wI (DigS l).1, wI (DigS l).2]) := by
  refine Maps.vt pok Tryz.f53 (n := 14) (rs := [.tmp 2, .tmp 3]) rfl rfl rfl rfl rfl rfl fun g => ?_
  have hc := m_RCheckLines l (by omega)
  unfold DigS
  by_cases h : CheckLinesS l = 0
  · rw [if_pos h]
    have hok := (checkLines_iff l).1 h
    have h60 := hok.1
    have hs := m_RSorted l (sortL l) (by omega) fun z hz hp => sortL_one hok.noFk hz hp
    have hpk := hok.perm (sortL_perm l)
    rw [h] at hc
    have hw := c_RWords (H := []) (x := .fl ((sortL l).map eLine)) (l := sortL l) (by rfl) (by have := sortL_len l; omega) hpk.ok
    have hl7 := words_len1 (l := sortL l) (by have := sortL_len l; omega)
    have hW := words_W hpk
    generalize wordsS (sortL l) = w at hw hl7 hW ⊢
    have hv := m_rvalue w 7 (by omega) hW ⟨by decide, by decide⟩
    rw [horner_dig] at hv
    have hsn : ([.ms 1 0 w.length w.length, wI 7] : List D).map (snap (fun b => ([.dead, .live 1 (w.map eI)] : List Blk)[b]?) 5) = [.sl (w.map eI), wI 7] := by
      have h3 : snap (fun b => ([.dead, .live 1 (w.map eI)] : List Blk)[b]?) 5 (.ms 1 0 w.length w.length) = .sl (w.map eI) := snapW (k := 4) rfl rfl
      rw [List.map_cons, h3]; rfl
    repeat (any_goals (first | (apply w_any; (first | refine RT.nil ?_ | refine RT.mvA ?_ | refine RT.asA ?_ | refine RT.bnA ?_ | (apply w_cl; (first | (refine d_call ?_; refine RT.callS rfl hw rfl (d2 := .ms 1 0 w.length w.length) rfl (H2 := [.dead, .live 1 (w.map eI)]) rfl ?_) | (refine d_call ?_; refine RT.callM rfl hv hsn rfl ?_) | refine RT.callM rfl (hc) rfl rfl ?_ | refine RT.callM rfl (hs) rfl rfl ?_)))) | (apply v_any; (first | refine VT.seq rfl ?_ | refine VT.reg rfl ?_ | refine VT.condF rfl rfl ?_ | refine VT.skip rfl ?_ | refine VT.ret rfl ?_)) | (with_reducible refine d_kEr ?_; refine kEr rfl ?_)))
    rfl
  · rw [if_neg h]
    repeat (any_goals (first | (apply w_any; (first | refine RT.nil ?_ | refine RT.mvA ?_ | refine RT.asA ?_ | refine RT.bnA ?_ | refine RT.callM rfl (hc) rfl rfl ?_)) | (apply v_any; (first | refine VT.seq rfl ?_ | refine VT.reg rfl ?_ | refine VT.ret rfl ?_ | refine VT.condY rfl rfl (by first | assumption | omega) ?_)) | with_reducible (refine kSr ?_) | (with_reducible refine d_kEr ?_; refine kEr rfl ?_)))
    rfl
theorem m_LeavesKnown (hh : Maps Tryz.prog 14 [] (wB true)) (a b : List Line) (day : Int) (hl : a.length ≤ 4611686018427387904) (hl' : b.length ≤ 4611686018427387904) :
    Maps Tryz.prog 10 [.sl (a.map eLine), .sl (b.map eLine), wI day] (wB true) := by
  refine Maps.vt pok Tryz.f10 (n := 141) (rs := [.tmp 6]) rfl rfl rfl rfl rfl rfl fun g => ?_
  by_cases ha : 70 < a.length
  · repeat (any_goals (first | (apply w_any; (first | refine RT.nil ?_ | (apply w_g; (first | refine RT.gn rfl rfl ?_ | refine RT.gcY rfl rfl rfl (by first | assumption | omega) ?_)) | refine RT.mvA ?_ | refine RT.asA ?_ | refine RT.bnA ?_ | (apply w_cl; (first | refine RT.callM rfl (hh) rfl rfl ?_ | refine RT.clA ?_)) | refine RT.pkA ?_)) | (apply v_any; (first | refine VT.seq rfl ?_ | refine VT.reg rfl ?_ | refine VT.condT rfl rfl ?_ | refine VT.ret rfl ?_)) | with_reducible (refine kSr ?_) | (with_reducible refine d_kEr ?_; refine kEr rfl ?_)))
    rfl
  by_cases hb : 70 < b.length
  · repeat (any_goals (first | (apply w_any; (first | refine RT.nil ?_ | (apply w_g; (first | refine RT.gy rfl ?_ | refine RT.gcN rfl rfl rfl (by first | assumption | omega) ?_)) | refine RT.mvA ?_ | refine RT.asA ?_ | refine RT.bnA ?_ | (apply w_cl; (first | refine RT.callM rfl (hh) rfl rfl ?_ | refine RT.clA ?_)) | refine RT.pkA ?_)) | (apply v_any; (first | refine VT.seq rfl ?_ | refine VT.reg rfl ?_ | refine VT.ret rfl ?_ | refine VT.condY rfl rfl (by first | assumption | omega) ?_)) | with_reducible (refine kSr ?_) | (with_reducible refine d_kEr ?_; refine kEr rfl ?_)))
    rfl
  have s1 := m_Sorted a hl
  have s2 := m_RSortedE a hl
  have k1 := m_Known a day hl
  have k2 := m_RKnown a day hl
  have g1 := m_Merge a b hl hl'
  have g2 := m_RMerge a b hl hl'
  have f1 := m_Forks a b hl hl'
  have f2 := m_RForks a b hl hl'
  have d1 := m_DigestE a (by omega)
  have d2 := m_RDigestE a (by omega)
  have zs : (SortedS a).1.length ≤ 1000 := by
    unfold SortedS; split
    · show (sortL a).length ≤ 1000; rw [sortL_len]; omega
    · exact Nat.zero_le _
  have zk : (KnownS a day).1.length ≤ 1000 := by
    unfold KnownS; split
    · split
      · refine Nat.le_trans (List.length_filter_le _ _) ?_; rw [sortL_len]; omega
      · exact Nat.zero_le _
    · exact Nat.zero_le _
  have zg : (MergeS a b).1.length ≤ 1000 := by
    unfold MergeS; split
    · split
      · split
        · exact Nat.zero_le _
        · rename_i h; show (dd _).length ≤ 1000; omega
      · exact Nat.zero_le _
    · exact Nat.zero_le _
  have zf : (ForksS a b).1.length ≤ 1000 := by
    unfold ForksS; split
    · show (sortI _).length ≤ 1000
      rw [List.length_mergeSort]; unfold forkW; rw [List.length_map]; exact Nat.le_trans (List.length_filter_le _ _) (by omega)
    · exact Nat.zero_le _
  generalize SortedS a = S at s1 s2 zs
  generalize KnownS a day = K at k1 k2 zk
  generalize MergeS a b = M at g1 g2 zg
  generalize ForksS a b = F at f1 f2 zf
  generalize DigS a = Dg at d1 d2
  have c1 := m_SameLines S.1 S.1 (by omega) (by omega)
  have c2 := m_SameLines K.1 K.1 (by omega) (by omega)
  have c3 := m_SameLines M.1 M.1 (by omega) (by omega)
  have c4 := m_same F.1 F.1 (by omega) (by omega)
  rw [decide_eq_true rfl] at c1 c2 c3 c4
  repeat (any_goals (first | (apply w_any; (first | refine RT.nil ?_ | (apply w_g; (first | refine RT.gy rfl ?_ | refine RT.gcY rfl rfl rfl (by first | assumption | omega) ?_ | refine RT.gcN rfl rfl rfl (by first | assumption | omega) ?_)) | refine RT.mvA ?_ | refine RT.asA ?_ | refine RT.ldA ?_ | refine RT.faA ?_ | refine RT.bnA ?_ | (apply w_cl; (first | refine RT.callM rfl (hh) rfl rfl ?_ | refine RT.callM rfl (s1) rfl rfl ?_ | refine RT.callM rfl (s2) rfl rfl ?_ | refine RT.callM rfl (k1) rfl rfl ?_ | refine RT.callM rfl (k2) rfl rfl ?_ | refine RT.callM rfl (g1) rfl rfl ?_ | refine RT.callM rfl (g2) rfl rfl ?_ | refine RT.callM rfl (f1) rfl rfl ?_ | refine RT.callM rfl (f2) rfl rfl ?_ | refine RT.callM rfl (d1) rfl rfl ?_ | refine RT.callM rfl (d2) rfl rfl ?_ | refine RT.callM rfl (c1) rfl rfl ?_ | refine RT.callM rfl (c2) rfl rfl ?_ | refine RT.callM rfl (c3) rfl rfl ?_ | refine RT.callM rfl (c4) rfl rfl ?_ | refine RT.clA ?_)) | refine RT.pkA ?_ | refine RT.exA ?_ | refine RT.stA ?_ | refine RT.nwA ?_)) | (apply v_any; (first | refine VT.seq rfl ?_ | refine VT.reg rfl ?_ | refine VT.skip rfl ?_ | refine VT.ret rfl ?_ | refine VT.condN rfl rfl (by first | assumption | omega) ?_)) | (with_reducible refine d_kEr ?_; refine kEr rfl ?_)))
  first | rfl | (refine congrArg wB ?_; simp) | trace_state
end Go.DL
