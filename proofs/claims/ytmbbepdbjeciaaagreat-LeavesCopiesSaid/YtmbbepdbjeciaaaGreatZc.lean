/- Products of polynomials, and polynomials through points, in leaves and in the reference. -/
import Derived.Test.YtmbbepdbjeciaaaGreatZb
import Derived.Test.YtmbbepdbjeciaaaGreatP1
set_option maxRecDepth 100000
set_option maxHeartbeats 16000000
namespace Go.DL
open Go.Proofs Go

theorem m_times (c : List Int) (r : Int) (hl : c.length ≤ 1000000) (hc : allW c) (hr : W r) : Maps Tryz.prog 160 [.sl (c.map eI), wI r] (.fl ((DM.times c r).map eI)) := by
  refine Maps.vt pok Tryz.f160 (n := 45) (rs := [.tmp 4]) rfl rfl rfl rfl rfl rfl fun g => ?_
  repeat (any_goals (first | (refine d_RT ?_; (first | refine RT.nil ?_ | refine RT.mvA ?_ | refine RT.asA ?_ | refine RT.bnA ?_ | refine RT.clA ?_ | refine RT.nwA ?_)) | (refine d_VT ?_; (first | refine VT.seq rfl ?_ | refine VT.reg rfl ?_ | refine VT.block rfl ?_))))
  refine VT.loop (fun j a H g' => ∃ (k : Nat) (o : List Int), j = c.length - k ∧ k ≤ c.length ∧ o = DM.tI c r k ∧ a = [(0, .sl (c.map eI)), (1, wI r), (5, .ms 0 0 (c.length + 1) (c.length + 1)), (12, .sl (c.map eI)), (13, wI c.length), (14, wI k)] ∧ H = [.live 1 (o.map eI)] ∧ g' = g) rfl
    ⟨_, _, _, ⟨0, _, rfl, Nat.zero_le _, (DM.tI_zero c r).symm, rfl, rfl, rfl⟩, fgA⟩ ?_
  rintro j a H g' ⟨k, o, rfl, hk, ho, rfl, rfl, rfl⟩
  have hol : o.length = c.length + 1 := by rw [ho]; exact DM.tI_length c r hk
  by_cases hlt : k < c.length
  · have hn := hc.get hlt
    have hm := mulW hr hn
    obtain ⟨d, u, v, rest, hd, he, hv, hu, hs⟩ := DM.tI_step c r hlt
    rw [← ho] at he
    clear ho
    subst hd
    have e1 : o[d.length + 1] = 0 := by subst he; rw [DM.get2, hv]
    have e2 : (o.set (d.length + 1) ((o[d.length + 1] + c[d.length]) % 65521))[d.length]'(by simp; omega) = u := by
      rw [List.getElem_set_ne (by omega)]; subst he; rw [DM.get1]
    repeat (any_goals (first | (refine d_RT ?_; (first | refine RT.nil ?_ | refine RT.mvA ?_ | refine RT.asA ?_ | refine RT.ldA ?_ | refine RT.bnA ?_ | refine RT.callM rfl (m_mod _) rfl rfl ?_ | refine RT.ixA ?_ | refine RT.stA ?_)) | (refine d_VT ?_; (first | refine VT.seq rfl ?_ | refine VT.reg rfl ?_ | refine VT.condY rfl rfl (by first | assumption | omega) ?_ | refine VT.block rfl ?_ | refine VT.skip rfl ?_)) | with_reducible (refine kLn ?_)))
    refine ⟨c.length - (d.length + 1), by omega, _, _, ⟨d.length + 1, _, rfl, hlt, ?_, rfl, rfl, rfl⟩, fgA⟩
    rw [e2, e1, Int.zero_add, hs]
    subst he
    rw [DM.set2]
  · repeat (any_goals (first | (refine d_RT ?_; (first | refine RT.nil ?_ | refine RT.mvA ?_ | refine RT.asA ?_ | refine RT.bnA ?_)) | (refine d_VT ?_; (first | refine VT.seq rfl ?_ | refine VT.reg rfl ?_ | refine VT.condN rfl rfl (by first | assumption | omega) ?_ | refine VT.exit rfl ?_ | refine VT.ret rfl ?_)) | (with_reducible refine d_kEr ?_; refine kEr rfl ?_)))
    exact (snapRW (o := o) rfl hol.symm).trans (by rw [ho, DM.tI_last c r (by omega)])
/-! ### polynomials through points -/
def dX (l : List Dot) : List Int := l.map Dot.X
def dY (l : List Dot) : List Int := l.map Dot.Y
theorem dX_len (l : List Dot) : (dX l).length = l.length := by simp [dX]
theorem dX_get (l : List Dot) {k : Nat} (h : k < l.length) : (dX l).getD k 0 = l[k].X := by simp [dX, h]
theorem dY_get (l : List Dot) {k : Nat} (h : k < l.length) : (dY l).getD k 0 = l[k].Y := by simp [dY, h]
def dotW (l : List Dot) : Prop := ∀ p, p ∈ l → W p.X ∧ W p.Y
theorem m_through (l : List Dot) (hl : l.length ≤ 1000) (hw : dotW l) : Maps Tryz.prog 123 [.sl (l.map eDot)] (.fl ((DM.through (dX l) (dY l)).map eI)) := by
  refine Maps.vt pok Tryz.f123 (n := 75) (rs := [.tmp 2]) rfl rfl rfl rfl rfl rfl fun g => ?_
  repeat (any_goals (first | (refine d_RT ?_; (first | refine RT.nil ?_ | refine RT.mvA ?_ | refine RT.asA ?_ | refine RT.clA ?_ | refine RT.nwA ?_)) | (refine d_VT ?_; (first | refine VT.seq rfl ?_ | refine VT.reg rfl ?_ | refine VT.block rfl ?_))))
  refine VT.loop (fun j a H g' => ∃ (i : Nat) (o : List Int), j = l.length - i ∧ i ≤ l.length ∧ o = DM.thrS (dX l) (dY l) i ∧ a = [(0, .sl (l.map eDot)), (3, .ms 0 0 l.length l.length), (15, .sl (l.map eDot)), (16, wI l.length), (17, wI i)] ∧ H = [.live 1 (o.map eI)] ∧ g' = g) rfl
    ⟨_, _, _, ⟨0, _, rfl, Nat.zero_le _, by rw [DM.thrS, dX_len], rfl, rfl, rfl⟩, fgA⟩ ?_
  rintro j a H g' ⟨i, o, rfl, hi, ho, rfl, rfl, rfl⟩
  have hol : o.length = l.length := by rw [ho, DM.thrS_len _ _ _ (by rw [dX_len]; exact hi), dX_len]
  by_cases hlt : i < l.length
  · have hp := hw _ (List.getElem_mem hlt)
    repeat (any_goals (first | (refine d_RT ?_; (first | refine RT.nil ?_ | refine RT.mvA ?_ | refine RT.asA ?_ | refine RT.ldA ?_ | refine RT.bnA ?_ | refine RT.clA ?_ | refine RT.ixA ?_ | refine RT.stA ?_ | refine RT.nwA ?_)) | (refine d_VT ?_; (first | refine VT.seq rfl ?_ | refine VT.reg rfl ?_ | refine VT.condY rfl rfl (by first | assumption | omega) ?_ | refine VT.block rfl ?_ | refine VT.skip rfl ?_))))
    refine VT.sealUp 2 [(0, .sl (l.map eDot)), (3, .ms 0 0 l.length l.length), (15, .sl (l.map eDot)), (16, wI l.length), (17, wI i), (4, wI i), (5, .mp 1 0 0), (6, .fl ([1].map eI)), (7, wI 1), (23, .sl (l.map eDot)), (24, wI l.length), (25, wI 0)] (H' := [.live 1 (o.map eI), .live 2 [eDot l[i]], .dead]) rfl (by first | exact purW _ | rfl) (by decide) (by (repeat first | exact True.intro | refine And.intro ?_ ?_ | exact Or.inr rfl | exact Or.inl rfl | exact Or.inr (sealW rfl).symm)) (by first | rfl | (simp only [List.map_cons, List.map_nil, sealBW, List.set_cons_succ, List.set_cons_zero]; try rfl)) rfl (by (repeat first | exact bb_nil | refine bb_cons ?_ ?_ | exact eI_low _ _ | exact eDot_low _ _ | exact bb_dead | exact bb_free | exact bb_lit rfl | (simp [BlkBelow, lowB]; done))) ?_
    refine VT.loop (fun j a H g2 => ∃ (k : Nat) (p : List Int) (d : Int), j = l.length - k ∧ k ≤ l.length ∧ DM.pthS (dX l) i k = (p, d) ∧ a = [(0, .sl (l.map eDot)), (3, .ms 0 0 l.length l.length), (15, .sl (l.map eDot)), (16, wI l.length), (17, wI i), (4, wI i), (5, .mp 1 0 0), (6, .fl (p.map eI)), (7, wI d), (23, .sl (l.map eDot)), (24, wI l.length), (25, wI k)] ∧ H = [.live 1 (o.map eI), .live 2 [eDot l[i]], .dead] ∧ g2 = g') rfl
      ⟨_, _, _, ⟨0, ([1] : List Int), (1 : Int), rfl, Nat.zero_le _, rfl, rfl, rfl, rfl⟩, fgA⟩ ?_
    rintro j a H g2 ⟨k, p, d, rfl, hk, hpd, rfl, rfl, rfl⟩
    have hpw := DM.pthS_W (dX l) i k
    have hpl := DM.pthS_len (dX l) i k
    rw [hpd] at hpw hpl
    have hd1 := hpw.2
    simp only at hd1 hpl
    by_cases hlt2 : k < l.length
    · have hq := hw _ (List.getElem_mem hlt2)
      by_cases hki : k = i
      · repeat (any_goals (first | (refine d_RT ?_; (first | refine RT.nil ?_ | refine RT.mvA ?_ | refine RT.asA ?_ | refine RT.ldA ?_ | refine RT.bnA ?_ | refine RT.ixA ?_ | refine RT.stA ?_ | refine RT.nwA ?_)) | (refine d_VT ?_; (first | refine VT.seq rfl ?_ | refine VT.reg rfl ?_ | refine VT.condY rfl rfl (by first | assumption | omega) ?_ | refine VT.condN rfl rfl (by first | assumption | omega) ?_ | refine VT.block rfl ?_ | refine VT.skip rfl ?_)) | with_reducible (refine kLn ?_)))
        exact ⟨l.length - (k + 1), by omega, _, _, ⟨k + 1, p, d, rfl, hlt2, by rw [DM.pthS, if_pos hki]; exact hpd, rfl, rfl, rfl⟩, fgA⟩
      · have hm := mulW hd1 (W_mod (l[i].X - l[k].X))
        have ht := m_times p l[k].X (by rw [hpl]; split <;> omega) hpw.1 hq.1
        repeat (any_goals (first | (refine d_RT ?_; (first | refine RT.nil ?_ | refine RT.mvA ?_ | refine RT.asA ?_ | refine RT.ldA ?_ | refine RT.bnA ?_ | refine RT.ixA ?_ | refine RT.stA ?_ | refine RT.nwA ?_)) | (refine d_VT ?_; (first | refine VT.seq rfl ?_ | refine VT.reg rfl ?_ | refine VT.draw [(0, []), (0, []), (0, []), (0, []), (0, []), (0, []), (0, []), (0, []), (0, []), (0, []), (0, []), (0, []), (0, []), (0, []), (0, [])] 1 mixedOk rfl (by decide +kernel) (by decide +kernel) (by decide +kernel) (by first | (simp only [nrm]; rfl) | (simp only [nrm, Nat.reduceAdd, Nat.zero_add]; rfl) | rfl) (by first | (simp only [nrm]; rfl) | (simp only [nrm, Nat.reduceAdd, Nat.zero_add]; rfl) | rfl) ?_ | refine VT.condY rfl rfl (by first | assumption | omega) ?_ | refine VT.block rfl ?_ | refine VT.skip rfl ?_)) | (refine d_PT ?_; (first | refine PT.done (by first | (simp only [nrm]; rfl) | (simp only [nrm, Nat.reduceAdd, Nat.zero_add]; rfl) | rfl) ?_ | refine PT.mvA ?_ | refine PT.asA ?_ | refine PT.ldA ?_ | refine PT.faA ?_ | refine PT.bnA ?_ | (refine p_call ?_; (first | refine PT.callG rfl (m_mod _) rfl rfl ?_ | refine PT.callG rfl (ht) rfl rfl ?_)))) | with_reducible (refine kLn ?_)))
        exact ⟨l.length - (k + 1), by omega, _, _, ⟨k + 1, _, _, rfl, hlt2, by rw [DM.pthS, if_neg hki, hpd, dX_get l hlt, dX_get l hlt2], rfl, rfl, rfl⟩, fgA⟩
    · obtain rfl : k = l.length := by omega
      rw [if_neg (by omega)] at hpl
      have hv := inv_W d
      have hm := mulW hp.2 hv
      have hpo : o.length = p.length := by omega
      repeat (any_goals (first | (refine d_RT ?_; (first | refine RT.nil ?_ | refine RT.mvA ?_ | refine RT.bnA ?_ | refine RT.clA ?_)) | (refine d_VT ?_; (first | refine VT.seq rfl ?_ | refine VT.reg rfl ?_ | refine VT.draw [(0, []), (0, []), (0, []), (0, []), (0, []), (0, []), (0, [])] 1 mixedOk rfl (by decide +kernel) (by decide +kernel) (by decide +kernel) (by first | (simp only [nrm]; rfl) | (simp only [nrm, Nat.reduceAdd, Nat.zero_add]; rfl) | rfl) (by first | (simp only [nrm]; rfl) | (simp only [nrm, Nat.reduceAdd, Nat.zero_add]; rfl) | rfl) ?_ | refine VT.condN rfl rfl (by first | assumption | omega) ?_ | refine VT.block rfl ?_ | refine VT.exit rfl ?_)) | (refine d_PT ?_; (first | refine PT.done (by first | (simp only [nrm]; rfl) | (simp only [nrm, Nat.reduceAdd, Nat.zero_add]; rfl) | rfl) ?_ | refine PT.mvA ?_ | refine PT.asA ?_ | refine PT.ldA ?_ | refine PT.faA ?_ | refine PT.bnA ?_ | (refine p_call ?_; (first | refine PT.callG rfl (m_mod _) rfl rfl ?_ | refine PT.callG rfl (m_inverse _ hd1) rfl rfl ?_))))))
      have hf := W_mod (l[i].Y * inv d)
      generalize hfe : l[i].Y * inv d % 65521 = f
      rw [hfe] at hf
      refine VT.loop (fun j a H g3 => ∃ (k : Nat) (q : List Int), j = l.length - k ∧ k ≤ l.length ∧ q = DM.aI f o p k ∧ a = [(0, .sl (l.map eDot)), (3, .ms 0 0 l.length l.length), (15, .sl (l.map eDot)), (16, wI l.length), (17, wI i), (7, wI f), (53, .fl (p.map eI)), (54, wI p.length), (55, wI k)] ∧ H = [.live 1 (q.map eI)] ∧ g3 = g2) rfl
        ⟨_, _, _, ⟨0, o, rfl, Nat.zero_le _, (DM.aI_zero f o p).symm, rfl, rfl, rfl⟩, fgA⟩ ?_
      rintro j a H g3 ⟨k, q, rfl, hk3, hq, rfl, rfl, rfl⟩
      have hql : q.length = l.length := by rw [hq, DM.aI_length hpo (by omega)]; omega
      by_cases hlt3 : k < l.length
      · obtain ⟨e, rest, he, hqe, hs⟩ := DM.aI_step (f := f) hpo (show k < o.length by omega)
        rw [← hq] at hqe
        have hpk : 0 ≤ p[k] ∧ p[k] ≤ 65520 := hpw.1 _ (List.getElem_mem _)
        have hok : 0 ≤ o[k] ∧ o[k] ≤ 65520 := by
          have := DM.thrS_W (dX l) (dY l) i; rw [← ho] at this; exact this _ (List.getElem_mem _)
        have e1 : q[k]'(by omega) = o[k] := DM.get1' hqe he _
        have hm3 := mulW hf hpk
        repeat (any_goals (first | (refine d_RT ?_; (first | refine RT.nil ?_ | refine RT.mvA ?_ | refine RT.asA ?_ | refine RT.ldA ?_ | refine RT.bnA ?_ | refine RT.callM rfl (m_mod _) rfl rfl ?_ | refine RT.ixA ?_ | refine RT.stA ?_)) | (refine d_VT ?_; (first | refine VT.seq rfl ?_ | refine VT.reg rfl ?_ | refine VT.condY rfl rfl (by first | assumption | omega) ?_ | refine VT.block rfl ?_ | refine VT.skip rfl ?_)) | with_reducible (refine kLn ?_)))
        refine ⟨l.length - (k + 1), by omega, _, _, ⟨k + 1, _, rfl, hlt3, ?_, rfl, rfl, rfl⟩, fgA⟩
        rw [e1, hs]
        exact DM.set1' _ hqe he
      · repeat (any_goals (first | (refine d_RT ?_; (first | refine RT.nil ?_ | refine RT.mvA ?_ | refine RT.bnA ?_)) | (refine d_VT ?_; (first | refine VT.seq rfl ?_ | refine VT.reg rfl ?_ | refine VT.condN rfl rfl (by first | assumption | omega) ?_ | refine VT.exit rfl ?_)) | with_reducible (refine kLn ?_)))
        exact ⟨l.length - (i + 1), by omega, _, _, ⟨i + 1, q, rfl, hlt, by rw [hq, DM.aI_last hpo (by omega), DM.thrS, dX_len, hpd, dY_get l hlt, ← ho, hfe], rfl, rfl, rfl⟩, fgA⟩
  · repeat (any_goals (first | (refine d_RT ?_; (first | refine RT.nil ?_ | refine RT.mvA ?_ | refine RT.asA ?_ | refine RT.bnA ?_)) | (refine d_VT ?_; (first | refine VT.seq rfl ?_ | refine VT.reg rfl ?_ | refine VT.condN rfl rfl (by first | assumption | omega) ?_ | refine VT.exit rfl ?_ | refine VT.ret rfl ?_)) | (with_reducible refine d_kEr ?_; refine kEr rfl ?_)))
    exact (snapRW (o := o) rfl hol.symm).trans (by rw [ho, show i = l.length by omega, DM.through, dX_len])
end Go.DL
