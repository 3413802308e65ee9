/- Products of polynomials, and polynomials through points, in leaves and in the reference. -/
import Derived.Test.YtmbbepdbjeciaaaGreatZb
import Derived.Test.YtmbbepdbjeciaaaGreatP1
set_option linter.all false
set_option maxRecDepth 100000
set_option maxHeartbeats 16000000
namespace Go.DL
open Go.Proofs Go

theorem mulV {a b : Int} (h1 : 0 ≤ a ∧ a ≤ 65520) (h2 : 0 ≤ b ∧ b ≤ 65521) : 0 ≤ a * b ∧ a * b ≤ 4292935920 := ⟨Int.mul_nonneg h1.1 h2.1, Int.le_trans (Int.mul_le_mul h1.2 h2.2 h2.1 (by decide)) (by decide)⟩
theorem modSub (u c r : Int) : (u + c * (65521 - r)) % 65521 = (u - r * c) % 65521 := by
  rw [Int.mul_sub, Int.mul_comm c r]; omega
theorem m_times (c : List Int) (r : Int) (hl : c.length ≤ 1000000) (hc : allW c) (hr : W r) : Maps Tryz.prog 160 [.sl (c.map eI), wI r] (.fl ((DM.times c r).map eI)) := by
  refine Maps.vt pok Tryz.f160 (n := 45) (rs := [.tmp 4]) rfl rfl rfl rfl rfl rfl fun g => ?_
  repeat (any_goals (first | (refine d_RT ?_; (first | refine RT.nil ?_ | refine RT.mvA ?_ | refine RT.asA ?_ | refine RT.bnA ?_ | refine RT.clA ?_ | refine RT.nwA ?_)) | (refine d_VT ?_; (first | refine VT.seq rfl ?_ | refine VT.reg rfl ?_ | refine VT.block rfl ?_))))
  refine VT.loop (fun j a H g' => ∃ (k : Nat) (o : List Int), j = c.length - k ∧ k ≤ c.length ∧ o = DM.tI c r k ∧ a = [(0, .sl (c.map eI)), (1, wI r), (5, .ms 0 0 (c.length + 1) (c.length + 1)), (12, .sl (c.map eI)), (13, wI c.length), (14, wI k)] ∧ H = [.live 1 (o.map eI)] ∧ g' = g) rfl
    ⟨_, _, _, ⟨0, _, rfl, Nat.zero_le _, (DM.tI_zero c r).symm, rfl, rfl, rfl⟩, fgA⟩ ?_
  rintro j a H g' ⟨k, o, rfl, hk, ho, rfl, rfl, rfl⟩
  have hol : o.length = c.length + 1 := by rw [ho]; exact DM.tI_length c r hk
  by_cases hlt : k < c.length
  · have hn := hc.get hlt
    have hm := mulW hr hn
    obtain ⟨d, u, v, rest, hd, he, hv, hu, hs⟩ := DM.tI_step c r hlt
    rw [← ho] at he
    clear ho
    subst hd
    have e1 : o[d.length + 1] = 0 := by subst he; rw [DM.get2, hv]
    have e2 : (o.set (d.length + 1) ((o[d.length + 1] + c[d.length]) % 65521))[d.length]'(by simp; omega) = u := by
      rw [List.getElem_set_ne (by omega)]; subst he; rw [DM.get1]
    repeat (any_goals (first | (refine d_RT ?_; (first | refine RT.nil ?_ | refine RT.mvA ?_ | refine RT.asA ?_ | refine RT.ldA ?_ | refine RT.bnA ?_ | refine RT.callM rfl (m_mod _) rfl rfl ?_ | refine RT.ixA ?_ | refine RT.stA ?_)) | (refine d_VT ?_; (first | refine VT.seq rfl ?_ | refine VT.reg rfl ?_ | refine VT.condY rfl rfl (by first | assumption | omega) ?_ | refine VT.block rfl ?_ | refine VT.skip rfl ?_)) | with_reducible (refine kLn ?_)))
    refine ⟨c.length - (d.length + 1), by omega, _, _, ⟨d.length + 1, _, rfl, hlt, ?_, rfl, rfl, rfl⟩, fgA⟩
    rw [e2, e1, Int.zero_add, hs]
    subst he
    rw [DM.set2]
  · repeat (any_goals (first | (refine d_RT ?_; (first | refine RT.nil ?_ | refine RT.mvA ?_ | refine RT.asA ?_ | refine RT.bnA ?_)) | (refine d_VT ?_; (first | refine VT.seq rfl ?_ | refine VT.reg rfl ?_ | refine VT.condN rfl rfl (by first | assumption | omega) ?_ | refine VT.exit rfl ?_ | refine VT.ret rfl ?_)) | (with_reducible refine d_kEr ?_; refine kEr rfl ?_)))
    exact (snapRW (o := o) rfl hol.symm).trans (by rw [ho, DM.tI_last c r (by omega)])
theorem m_rtimes (c : List Int) (r : Int) (hl : c.length ≤ 1000000) (hc : allW c) (hr : W r) : Maps Tryz.prog 177 [.sl (c.map eI), wI r] (.fl ((DM.times c r).map eI)) := by
  refine Maps.vt pok Tryz.f177 (n := 49) (rs := [.tmp 4]) rfl rfl rfl rfl rfl rfl fun g => ?_
  repeat (any_goals (first | (refine d_RT ?_; (first | refine RT.nil ?_ | refine RT.mvA ?_ | refine RT.asA ?_ | refine RT.bnA ?_ | refine RT.clA ?_ | refine RT.nwA ?_)) | (refine d_VT ?_; (first | refine VT.seq rfl ?_ | refine VT.reg rfl ?_ | refine VT.block rfl ?_))))
  refine VT.loop (fun j a H g' => ∃ (k : Nat) (o : List Int), j = c.length - k ∧ k ≤ c.length ∧ o = DM.tI c r k ∧ a = [(0, .sl (c.map eI)), (1, wI r), (5, .ms 0 0 (c.length + 1) (c.length + 1)), (6, wI k)] ∧ H = [.live 1 (o.map eI)] ∧ g' = g) rfl
    ⟨_, _, _, ⟨0, _, rfl, Nat.zero_le _, (DM.tI_zero c r).symm, rfl, rfl, rfl⟩, fgA⟩ ?_
  rintro j a H g' ⟨k, o, rfl, hk, ho, rfl, rfl, rfl⟩
  have hol : o.length = c.length + 1 := by rw [ho]; exact DM.tI_length c r hk
  by_cases hlt : k < c.length
  · have hn := hc.get hlt
    have hr1 := hr.1
    have hr2 := hr.2
    have hm := mulV (b := 65521 - r) hn ⟨by omega, by omega⟩
    obtain ⟨d, u, v, rest, hd, he, hv, hu, hs⟩ := DM.tI_step c r hlt
    rw [← ho] at he
    clear ho
    subst hd
    have e1 : o[d.length + 1] = 0 := by subst he; rw [DM.get2, hv]
    have e2 : (o.set (d.length + 1) ((o[d.length + 1] + c[d.length]) % 65521))[d.length]'(by simp; omega) = u := by
      rw [List.getElem_set_ne (by omega)]; subst he; rw [DM.get1]
    repeat (any_goals (first | (refine d_RT ?_; (first | refine RT.nil ?_ | refine RT.mvA ?_ | refine RT.asA ?_ | refine RT.bnA ?_ | refine RT.clA ?_)) | (refine d_VT ?_; (first | refine VT.seq rfl ?_ | refine VT.reg rfl ?_ | refine VT.draw [(1, [0]), (1, [0]), (1, [0]), (1, [0]), (1, [0]), (1, [0]), (1, [0]), (1, [0]), (1, [0]), (1, [0]), (1, [0]), (1, [0]), (1, [0]), (1, [0]), (1, [0]), (0, [0])] 2 mixedOk rfl (by decide +kernel) (by decide +kernel) (by decide +kernel) (by first | (simp only [nrm]; rfl) | (simp only [nrm, Nat.reduceAdd, Nat.zero_add]; rfl) | rfl) (by first | (simp only [nrm]; rfl) | (simp only [nrm, Nat.reduceAdd, Nat.zero_add]; rfl) | rfl) ?_ | refine VT.draw [(1, [0]), (1, [0]), (1, [0]), (1, [0]), (1, [0]), (1, [0]), (1, [0]), (1, [0]), (1, [0]), (1, [0]), (1, [0]), (1, [0]), (1, [0]), (1, [0]), (1, [0]), (1, [0]), (0, [0])] 2 mixedOk rfl (by decide +kernel) (by decide +kernel) (by decide +kernel) (by first | (simp only [nrm]; rfl) | (simp only [nrm, Nat.reduceAdd, Nat.zero_add]; rfl) | rfl) (by first | (simp only [nrm]; rfl) | (simp only [nrm, Nat.reduceAdd, Nat.zero_add]; rfl) | rfl) ?_ | refine VT.condY rfl rfl (by first | assumption | omega) ?_ | refine VT.block rfl ?_ | refine VT.skip rfl ?_)) | (refine d_PT ?_; (first | refine PT.done (by first | (simp only [nrm]; rfl) | (simp only [nrm, Nat.reduceAdd, Nat.zero_add]; rfl) | rfl) ?_ | refine PT.mvA ?_ | refine PT.ldA ?_ | refine PT.bnA ?_ | refine PT.ixA ?_ | refine PT.stA ?_)) | with_reducible (refine kLn ?_)))
    refine ⟨c.length - (d.length + 1), by omega, _, _, ⟨d.length + 1, _, rfl, hlt, ?_, rfl, rfl, rfl⟩, fgA⟩
    rw [e2, e1, Int.zero_add, modSub, hs]
    subst he
    rw [DM.set2]
  · repeat (any_goals (first | (refine d_RT ?_; (first | refine RT.nil ?_ | refine RT.mvA ?_ | refine RT.asA ?_ | refine RT.bnA ?_ | refine RT.clA ?_)) | (refine d_VT ?_; (first | refine VT.seq rfl ?_ | refine VT.reg rfl ?_ | refine VT.condN rfl rfl (by first | assumption | omega) ?_ | refine VT.exit rfl ?_ | refine VT.ret rfl ?_)) | (with_reducible refine d_kEr ?_; refine kEr rfl ?_)))
    exact (snapRW (o := o) rfl hol.symm).trans (by rw [ho, DM.tI_last c r (by omega)])

/-! ### polynomials through points -/
def dX (l : List Dot) : List Int := l.map Dot.X
def dY (l : List Dot) : List Int := l.map Dot.Y
theorem dX_len (l : List Dot) : (dX l).length = l.length := by simp [dX]
theorem dX_get (l : List Dot) {k : Nat} (h : k < l.length) : (dX l).getD k 0 = l[k].X := by simp [dX, h]
theorem dY_get (l : List Dot) {k : Nat} (h : k < l.length) : (dY l).getD k 0 = l[k].Y := by simp [dY, h]
def dotW (l : List Dot) : Prop := ∀ p, p ∈ l → W p.X ∧ W p.Y
theorem m_through (l : List Dot) (hl : l.length ≤ 1000) (hw : dotW l) : Maps Tryz.prog 123 [.sl (l.map eDot)] (.fl ((DM.through (dX l) (dY l)).map eI)) := by
  refine Maps.vt pok Tryz.f123 (n := 75) (rs := [.tmp 2]) rfl rfl rfl rfl rfl rfl fun g => ?_
  repeat (any_goals (first | (refine d_RT ?_; (first | refine RT.nil ?_ | refine RT.mvA ?_ | refine RT.asA ?_ | refine RT.clA ?_ | refine RT.nwA ?_)) | (refine d_VT ?_; (first | refine VT.seq rfl ?_ | refine VT.reg rfl ?_ | refine VT.block rfl ?_))))
  refine VT.loop (fun j a H g' => ∃ (i : Nat) (o : List Int), j = l.length - i ∧ i ≤ l.length ∧ o = DM.thrS (dX l) (dY l) i ∧ a = [(0, .sl (l.map eDot)), (3, .ms 0 0 l.length l.length), (15, .sl (l.map eDot)), (16, wI l.length), (17, wI i)] ∧ H = [.live 1 (o.map eI)] ∧ g' = g) rfl
    ⟨_, _, _, ⟨0, _, rfl, Nat.zero_le _, by rw [DM.thrS, dX_len], rfl, rfl, rfl⟩, fgA⟩ ?_
  rintro j a H g' ⟨i, o, rfl, hi, ho, rfl, rfl, rfl⟩
  have hol : o.length = l.length := by rw [ho, DM.thrS_len _ _ _ (by rw [dX_len]; exact hi), dX_len]
  by_cases hlt : i < l.length
  · have hp := hw _ (List.getElem_mem hlt)
    repeat (any_goals (first | (refine d_RT ?_; (first | refine RT.nil ?_ | refine RT.mvA ?_ | refine RT.asA ?_ | refine RT.ldA ?_ | refine RT.bnA ?_ | refine RT.clA ?_ | refine RT.ixA ?_ | refine RT.stA ?_ | refine RT.nwA ?_)) | (refine d_VT ?_; (first | refine VT.seq rfl ?_ | refine VT.reg rfl ?_ | refine VT.condY rfl rfl (by first | assumption | omega) ?_ | refine VT.block rfl ?_ | refine VT.skip rfl ?_))))
    refine VT.sealUp 2 [(0, .sl (l.map eDot)), (3, .ms 0 0 l.length l.length), (15, .sl (l.map eDot)), (16, wI l.length), (17, wI i), (4, wI i), (5, .mp 1 0 0), (6, .fl ([1].map eI)), (7, wI 1), (23, .sl (l.map eDot)), (24, wI l.length), (25, wI 0)] (H' := [.live 1 (o.map eI), .live 2 [eDot l[i]], .dead]) rfl (by first | exact purW _ | rfl) (by decide) (by (repeat first | exact True.intro | refine And.intro ?_ ?_ | exact Or.inr rfl | exact Or.inl rfl | exact Or.inr (sealW rfl).symm)) (by first | rfl | (simp only [List.map_cons, List.map_nil, sealBW, List.set_cons_succ, List.set_cons_zero]; try rfl)) rfl (by (repeat first | exact bb_nil | refine bb_cons ?_ ?_ | exact eI_low _ _ | exact eDot_low _ _ | exact bb_dead | exact bb_free | exact bb_lit rfl | (simp [BlkBelow, lowB]; done))) ?_
    refine VT.loop (fun j a H g2 => ∃ (k : Nat) (p : List Int) (d : Int), j = l.length - k ∧ k ≤ l.length ∧ DM.pthS (dX l) i k = (p, d) ∧ a = [(0, .sl (l.map eDot)), (3, .ms 0 0 l.length l.length), (15, .sl (l.map eDot)), (16, wI l.length), (17, wI i), (4, wI i), (5, .mp 1 0 0), (6, .fl (p.map eI)), (7, wI d), (23, .sl (l.map eDot)), (24, wI l.length), (25, wI k)] ∧ H = [.live 1 (o.map eI), .live 2 [eDot l[i]], .dead] ∧ g2 = g') rfl
      ⟨_, _, _, ⟨0, ([1] : List Int), (1 : Int), rfl, Nat.zero_le _, rfl, rfl, rfl, rfl⟩, fgA⟩ ?_
    rintro j a H g2 ⟨k, p, d, rfl, hk, hpd, rfl, rfl, rfl⟩
    have hpw := DM.pthS_W (dX l) i k
    have hpl := DM.pthS_len (dX l) i k
    rw [hpd] at hpw hpl
    have hd1 := hpw.2
    simp only at hd1 hpl
    by_cases hlt2 : k < l.length
    · have hq := hw _ (List.getElem_mem hlt2)
      by_cases hki : k = i
      · repeat (any_goals (first | (refine d_RT ?_; (first | refine RT.nil ?_ | refine RT.mvA ?_ | refine RT.asA ?_ | refine RT.ldA ?_ | refine RT.bnA ?_ | refine RT.ixA ?_ | refine RT.stA ?_ | refine RT.nwA ?_)) | (refine d_VT ?_; (first | refine VT.seq rfl ?_ | refine VT.reg rfl ?_ | refine VT.condY rfl rfl (by first | assumption | omega) ?_ | refine VT.condN rfl rfl (by first | assumption | omega) ?_ | refine VT.block rfl ?_ | refine VT.skip rfl ?_)) | with_reducible (refine kLn ?_)))
        exact ⟨l.length - (k + 1), by omega, _, _, ⟨k + 1, p, d, rfl, hlt2, by rw [DM.pthS, if_pos hki]; exact hpd, rfl, rfl, rfl⟩, fgA⟩
      · have hm := mulW hd1 (W_mod (l[i].X - l[k].X))
        have ht := m_times p l[k].X (by rw [hpl]; split <;> omega) hpw.1 hq.1
        repeat (any_goals (first | (refine d_RT ?_; (first | refine RT.nil ?_ | refine RT.mvA ?_ | refine RT.asA ?_ | refine RT.ldA ?_ | refine RT.bnA ?_ | refine RT.ixA ?_ | refine RT.stA ?_ | refine RT.nwA ?_)) | (refine d_VT ?_; (first | refine VT.seq rfl ?_ | refine VT.reg rfl ?_ | refine VT.draw [(0, []), (0, []), (0, []), (0, []), (0, []), (0, []), (0, []), (0, []), (0, []), (0, []), (0, []), (0, []), (0, []), (0, []), (0, [])] 1 mixedOk rfl (by decide +kernel) (by decide +kernel) (by decide +kernel) (by first | (simp only [nrm]; rfl) | (simp only [nrm, Nat.reduceAdd, Nat.zero_add]; rfl) | rfl) (by first | (simp only [nrm]; rfl) | (simp only [nrm, Nat.reduceAdd, Nat.zero_add]; rfl) | rfl) ?_ | refine VT.condY rfl rfl (by first | assumption | omega) ?_ | refine VT.block rfl ?_ | refine VT.skip rfl ?_)) | (refine d_PT ?_; (first | refine PT.done (by first | (simp only [nrm]; rfl) | (simp only [nrm, Nat.reduceAdd, Nat.zero_add]; rfl) | rfl) ?_ | refine PT.mvA ?_ | refine PT.asA ?_ | refine PT.ldA ?_ | refine PT.faA ?_ | refine PT.bnA ?_ | (refine p_call ?_; (first | refine PT.callG rfl (m_mod _) rfl rfl ?_ | refine PT.callG rfl (ht) rfl rfl ?_)))) | with_reducible (refine kLn ?_)))
        exact ⟨l.length - (k + 1), by omega, _, _, ⟨k + 1, _, _, rfl, hlt2, by rw [DM.pthS, if_neg hki, hpd, dX_get l hlt, dX_get l hlt2], rfl, rfl, rfl⟩, fgA⟩
    · obtain rfl : k = l.length := by omega
      rw [if_neg (by omega)] at hpl
      have hv := inv_W d
      have hm := mulW hp.2 hv
      have hpo : o.length = p.length := by omega
      repeat (any_goals (first | (refine d_RT ?_; (first | refine RT.nil ?_ | refine RT.mvA ?_ | refine RT.bnA ?_ | refine RT.clA ?_)) | (refine d_VT ?_; (first | refine VT.seq rfl ?_ | refine VT.reg rfl ?_ | refine VT.draw [(0, []), (0, []), (0, []), (0, []), (0, []), (0, []), (0, [])] 1 mixedOk rfl (by decide +kernel) (by decide +kernel) (by decide +kernel) (by first | (simp only [nrm]; rfl) | (simp only [nrm, Nat.reduceAdd, Nat.zero_add]; rfl) | rfl) (by first | (simp only [nrm]; rfl) | (simp only [nrm, Nat.reduceAdd, Nat.zero_add]; rfl) | rfl) ?_ | refine VT.condN rfl rfl (by first | assumption | omega) ?_ | refine VT.block rfl ?_ | refine VT.exit rfl ?_)) | (refine d_PT ?_; (first | refine PT.done (by first | (simp only [nrm]; rfl) | (simp only [nrm, Nat.reduceAdd, Nat.zero_add]; rfl) | rfl) ?_ | refine PT.mvA ?_ | refine PT.asA ?_ | refine PT.ldA ?_ | refine PT.faA ?_ | refine PT.bnA ?_ | (refine p_call ?_; (first | refine PT.callG rfl (m_mod _) rfl rfl ?_ | refine PT.callG rfl (m_inverse _ hd1) rfl rfl ?_))))))
      have hf := W_mod (l[i].Y * inv d)
      generalize hfe : l[i].Y * inv d % 65521 = f
      rw [hfe] at hf
      refine VT.loop (fun j a H g3 => ∃ (k : Nat) (q : List Int), j = l.length - k ∧ k ≤ l.length ∧ q = DM.aI f o p k ∧ a = [(0, .sl (l.map eDot)), (3, .ms 0 0 l.length l.length), (15, .sl (l.map eDot)), (16, wI l.length), (17, wI i), (7, wI f), (53, .fl (p.map eI)), (54, wI p.length), (55, wI k)] ∧ H = [.live 1 (q.map eI)] ∧ g3 = g2) rfl
        ⟨_, _, _, ⟨0, o, rfl, Nat.zero_le _, (DM.aI_zero f o p).symm, rfl, rfl, rfl⟩, fgA⟩ ?_
      rintro j a H g3 ⟨k, q, rfl, hk3, hq, rfl, rfl, rfl⟩
      have hql : q.length = l.length := by rw [hq, DM.aI_length hpo (by omega)]; omega
      by_cases hlt3 : k < l.length
      · obtain ⟨e, rest, he, hqe, hs⟩ := DM.aI_step (f := f) hpo (show k < o.length by omega)
        rw [← hq] at hqe
        have hpk : 0 ≤ p[k] ∧ p[k] ≤ 65520 := hpw.1 _ (List.getElem_mem _)
        have hok : 0 ≤ o[k] ∧ o[k] ≤ 65520 := by
          have := DM.thrS_W (dX l) (dY l) i; rw [← ho] at this; exact this _ (List.getElem_mem _)
        have e1 : q[k]'(by omega) = o[k] := DM.get1' hqe he _
        have hm3 := mulW hf hpk
        repeat (any_goals (first | (refine d_RT ?_; (first | refine RT.nil ?_ | refine RT.mvA ?_ | refine RT.asA ?_ | refine RT.ldA ?_ | refine RT.bnA ?_ | refine RT.callM rfl (m_mod _) rfl rfl ?_ | refine RT.ixA ?_ | refine RT.stA ?_)) | (refine d_VT ?_; (first | refine VT.seq rfl ?_ | refine VT.reg rfl ?_ | refine VT.condY rfl rfl (by first | assumption | omega) ?_ | refine VT.block rfl ?_ | refine VT.skip rfl ?_)) | with_reducible (refine kLn ?_)))
        refine ⟨l.length - (k + 1), by omega, _, _, ⟨k + 1, _, rfl, hlt3, ?_, rfl, rfl, rfl⟩, fgA⟩
        rw [e1, hs]
        exact DM.set1' _ hqe he
      · repeat (any_goals (first | (refine d_RT ?_; (first | refine RT.nil ?_ | refine RT.mvA ?_ | refine RT.bnA ?_)) | (refine d_VT ?_; (first | refine VT.seq rfl ?_ | refine VT.reg rfl ?_ | refine VT.condN rfl rfl (by first | assumption | omega) ?_ | refine VT.exit rfl ?_)) | with_reducible (refine kLn ?_)))
        exact ⟨l.length - (i + 1), by omega, _, _, ⟨i + 1, q, rfl, hlt, by rw [hq, DM.aI_last hpo (by omega), DM.thrS, dX_len, hpd, dY_get l hlt, ← ho, hfe], rfl, rfl, rfl⟩, fgA⟩
  · repeat (any_goals (first | (refine d_RT ?_; (first | refine RT.nil ?_ | refine RT.mvA ?_ | refine RT.asA ?_ | refine RT.bnA ?_)) | (refine d_VT ?_; (first | refine VT.seq rfl ?_ | refine VT.reg rfl ?_ | refine VT.condN rfl rfl (by first | assumption | omega) ?_ | refine VT.exit rfl ?_ | refine VT.ret rfl ?_)) | (with_reducible refine d_kEr ?_; refine kEr rfl ?_)))
    exact (snapRW (o := o) rfl hol.symm).trans (by rw [ho, show i = l.length by omega, DM.through, dX_len])
theorem powN_zero {e : Nat} (h : 0 < e) : DM.powN 0 e = 0 := by rw [DM.powN, Nat.zero_pow h]
theorem m_rinverse0 : Maps Tryz.prog 170 [wI 0] (wI (inv 0)) := by
  have hi : inv 0 = 0 := by
    show ((DM.powN 0 65519 : Nat) : Int) = 0
    rw [powN_zero (by decide)]; rfl
  refine Maps.vt pok Tryz.f170 (n := 34) (rs := [.tmp 2]) rfl rfl rfl rfl rfl rfl fun g => ?_
  repeat (any_goals (first | (refine d_RT ?_; (first | refine RT.nil ?_ | refine RT.mvA ?_ | refine RT.asA ?_)) | (refine d_VT ?_; (first | refine VT.seq rfl ?_ | refine VT.reg rfl ?_ | refine VT.block rfl ?_))))
  refine VT.loop (fun j a' H g' => ∃ (a b x y : Int), (j = 1 ∧ a = 0 ∧ b = 65521 ∧ x = 1 ∧ y = 0 ∨ j = 0 ∧ a = 65521 ∧ b = 0 ∧ x = 0 ∧ y = 1) ∧ a' = [(3, wI a), (4, wI b), (5, wI x), (6, wI y)] ∧ H = [] ∧ g' = g) rfl
    ⟨_, _, _, ⟨0, 65521, 1, 0, .inl ⟨rfl, rfl, rfl, rfl, rfl⟩, rfl, rfl, rfl⟩, fgA⟩ ?_
  rintro j a' H g' ⟨a, b, x, y, h | h, rfl, rfl, rfl⟩
  · obtain ⟨rfl, rfl, rfl, rfl, rfl⟩ := h
    repeat (any_goals (first | (refine d_RT ?_; (first | refine RT.nil ?_ | refine RT.mvA ?_ | refine RT.asA ?_ | refine RT.bnA ?_)) | (refine d_VT ?_; (first | refine VT.seq rfl ?_ | refine VT.reg rfl ?_ | refine VT.condT rfl rfl ?_ | refine VT.block rfl ?_ | refine VT.skip rfl ?_)) | (with_reducible first | refine kBn ?_ | refine kLn ?_)))
    exact ⟨0, by omega, _, _, ⟨_, _, _, _, .inr ⟨rfl, rfl, rfl, rfl, rfl⟩, rfl, rfl, rfl⟩, fgA⟩
  · obtain ⟨rfl, rfl, rfl, rfl, rfl⟩ := h
    repeat (any_goals (first | (refine d_RT ?_; (first | refine RT.nil ?_ | refine RT.mvA ?_ | refine RT.asA ?_ | refine RT.bnA ?_)) | (refine d_VT ?_; (first | refine VT.seq rfl ?_ | refine VT.reg rfl ?_ | refine VT.condF rfl rfl ?_ | refine VT.exit rfl ?_ | refine VT.ret rfl ?_)) | (with_reducible refine d_kEr ?_; refine kEr rfl ?_)))
    rw [hi]; rfl
theorem m_rinverseW (x : Int) (hx : 0 ≤ x ∧ x ≤ 65520) : Maps Tryz.prog 170 [wI x] (wI (inv x)) := by
  by_cases h : x = 0
  · subst h; exact m_rinverse0
  · exact m_rinverse x ⟨by omega, hx.2⟩
theorem modAdd (a b : Int) : (a - b + 65521) % 65521 = (a - b) % 65521 := by omega
theorem m_rthrough (l : List Dot) (hl : l.length ≤ 1000) (hw : dotW l) : Maps Tryz.prog 164 [.sl (l.map eDot)] (.fl ((DM.through (dX l) (dY l)).map eI)) := by
  refine Maps.vt pok Tryz.f164 (n := 83) (rs := [.tmp 2]) rfl rfl rfl rfl rfl rfl fun g => ?_
  repeat (any_goals (first | (refine d_RT ?_; (first | refine RT.nil ?_ | refine RT.mvA ?_ | refine RT.asA ?_ | refine RT.clA ?_ | refine RT.nwA ?_)) | (refine d_VT ?_; (first | refine VT.seq rfl ?_ | refine VT.reg rfl ?_ | refine VT.block rfl ?_))))
  refine VT.loop (fun j a H g' => ∃ (i : Nat) (o : List Int), j = l.length - i ∧ i ≤ l.length ∧ o = DM.thrS (dX l) (dY l) i ∧ a = [(0, .sl (l.map eDot)), (3, .ms 0 0 l.length l.length), (4, wI i)] ∧ H = [.live 1 (o.map eI)] ∧ g' = g) rfl
    ⟨_, _, _, ⟨0, _, rfl, Nat.zero_le _, by rw [DM.thrS, dX_len], rfl, rfl, rfl⟩, fgA⟩ ?_
  rintro j a H g' ⟨i, o, rfl, hi, ho, rfl, rfl, rfl⟩
  have hol : o.length = l.length := by rw [ho, DM.thrS_len _ _ _ (by rw [dX_len]; exact hi), dX_len]
  by_cases hlt : i < l.length
  · have hp := hw _ (List.getElem_mem hlt)
    have hp1 := hp.1
    repeat (any_goals (first | (refine d_RT ?_; (first | refine RT.nil ?_ | refine RT.mvA ?_ | refine RT.asA ?_ | refine RT.bnA ?_ | refine RT.clA ?_ | refine RT.nwA ?_)) | (refine d_VT ?_; (first | refine VT.seq rfl ?_ | refine VT.reg rfl ?_ | refine VT.condY rfl rfl (by first | assumption | omega) ?_ | refine VT.block rfl ?_ | refine VT.skip rfl ?_))))
    refine VT.sealUp 1 [(0, .sl (l.map eDot)), (3, .ms 0 0 l.length l.length), (4, wI i), (5, .fl ([1].map eI)), (6, wI 1), (7, wI 0)] (H' := [.live 1 (o.map eI), .dead]) rfl (by first | exact purW _ | rfl) (by decide) (by (repeat first | exact True.intro | refine And.intro ?_ ?_ | exact Or.inr rfl | exact Or.inl rfl | exact Or.inr (sealW rfl).symm)) (by first | rfl | (simp only [List.map_cons, List.map_nil, sealBW, List.set_cons_succ, List.set_cons_zero]; try rfl)) rfl (by (repeat first | exact bb_nil | refine bb_cons ?_ ?_ | exact eI_low _ _ | exact eDot_low _ _ | exact bb_dead | exact bb_free | exact bb_lit rfl | (simp [BlkBelow, lowB]; done))) ?_
    refine VT.loop (fun j a H g2 => ∃ (k : Nat) (p : List Int) (d : Int), j = l.length - k ∧ k ≤ l.length ∧ DM.pthS (dX l) i k = (p, d) ∧ a = [(0, .sl (l.map eDot)), (3, .ms 0 0 l.length l.length), (4, wI i), (5, .fl (p.map eI)), (6, wI d), (7, wI k)] ∧ H = [.live 1 (o.map eI), .dead] ∧ g2 = g') rfl
      ⟨_, _, _, ⟨0, ([1] : List Int), (1 : Int), rfl, Nat.zero_le _, rfl, rfl, rfl, rfl⟩, fgA⟩ ?_
    rintro j a H g2 ⟨k, p, d, rfl, hk, hpd, rfl, rfl, rfl⟩
    have hpw := DM.pthS_W (dX l) i k
    have hpl := DM.pthS_len (dX l) i k
    rw [hpd] at hpw hpl
    have hd1 := hpw.2
    simp only at hd1 hpl
    by_cases hlt2 : k < l.length
    · have hq := hw _ (List.getElem_mem hlt2)
      have hq1 := hq.1
      by_cases hki : k = i
      · repeat (any_goals (first | (refine d_RT ?_; (first | refine RT.nil ?_ | refine RT.mvA ?_ | refine RT.asA ?_ | refine RT.bnA ?_ | refine RT.clA ?_)) | (refine d_VT ?_; (first | refine VT.seq rfl ?_ | refine VT.reg rfl ?_ | refine VT.condY rfl rfl (by first | assumption | omega) ?_ | refine VT.block rfl ?_ | refine VT.skip rfl ?_ | refine VT.exit rfl ?_)) | with_reducible (refine kLn ?_)))
        exact ⟨l.length - (k + 1), by omega, _, _, ⟨k + 1, p, d, rfl, hlt2, by rw [DM.pthS, if_pos hki]; exact hpd, rfl, rfl, rfl⟩, fgA⟩
      · have hm := mulW hd1 (W_mod (l[i].X - l[k].X + 65521))
        have ht := m_rtimes p l[k].X (by rw [hpl]; split <;> omega) hpw.1 hq.1
        repeat (any_goals (first | (refine d_RT ?_; (first | refine RT.nil ?_ | refine RT.mvA ?_ | refine RT.asA ?_ | refine RT.ldA ?_ | refine RT.faA ?_ | refine RT.bnA ?_ | (refine d_call ?_; (first | refine RT.callM rfl (ht) rfl rfl ?_ | refine RT.clA ?_)) | refine RT.ixA ?_)) | (refine d_VT ?_; (first | refine VT.seq rfl ?_ | refine VT.reg rfl ?_ | refine VT.draw [(0, []), (0, []), (0, []), (0, []), (0, []), (0, []), (0, []), (0, []), (0, []), (0, []), (0, []), (0, []), (0, []), (0, []), (0, []), (0, []), (0, [])] 1 mixedOk rfl (by decide +kernel) (by decide +kernel) (by decide +kernel) (by first | (simp only [nrm]; rfl) | (simp only [nrm, Nat.reduceAdd, Nat.zero_add]; rfl) | rfl) (by first | (simp only [nrm]; rfl) | (simp only [nrm, Nat.reduceAdd, Nat.zero_add]; rfl) | rfl) ?_ | refine VT.condY rfl rfl (by first | assumption | omega) ?_ | refine VT.condN rfl rfl (by first | assumption | omega) ?_ | refine VT.block rfl ?_ | refine VT.skip rfl ?_)) | (refine d_PT ?_; (first | refine PT.done (by first | (simp only [nrm]; rfl) | (simp only [nrm, Nat.reduceAdd, Nat.zero_add]; rfl) | rfl) ?_ | refine PT.mvA ?_ | refine PT.asA ?_ | refine PT.ldA ?_ | refine PT.faA ?_ | refine PT.bnA ?_ | refine PT.ixA ?_)) | with_reducible (refine kLn ?_)))
        exact ⟨l.length - (k + 1), by omega, _, _, ⟨k + 1, DM.times p l[k].X, d * ((l[i].X - l[k].X + 65521) % 65521) % 65521, rfl, hlt2, by rw [DM.pthS, if_neg hki, hpd, dX_get l hlt, dX_get l hlt2, ← modAdd], rfl, rfl, rfl⟩, fgA⟩
    · obtain rfl : k = l.length := by omega
      rw [if_neg (by omega)] at hpl
      have hv := inv_W d
      have hm := mulW hp.2 hv
      have hpo : o.length = p.length := by omega
      repeat (any_goals (first | (refine d_RT ?_; (first | refine RT.nil ?_ | refine RT.mvA ?_ | refine RT.asA ?_ | refine RT.bnA ?_ | refine RT.clA ?_)) | (refine d_VT ?_; (first | refine VT.seq rfl ?_ | refine VT.reg rfl ?_ | refine VT.draw [(0, []), (0, []), (0, []), (0, []), (0, []), (0, []), (0, []), (0, []), (0, []), (0, [])] 1 mixedOk rfl (by decide +kernel) (by decide +kernel) (by decide +kernel) (by first | (simp only [nrm]; rfl) | (simp only [nrm, Nat.reduceAdd, Nat.zero_add]; rfl) | rfl) (by first | (simp only [nrm]; rfl) | (simp only [nrm, Nat.reduceAdd, Nat.zero_add]; rfl) | rfl) ?_ | refine VT.condN rfl rfl (by first | assumption | omega) ?_ | refine VT.block rfl ?_ | refine VT.exit rfl ?_)) | (refine d_PT ?_; (first | refine PT.done (by first | (simp only [nrm]; rfl) | (simp only [nrm, Nat.reduceAdd, Nat.zero_add]; rfl) | rfl) ?_ | refine PT.mvA ?_ | refine PT.asA ?_ | refine PT.ldA ?_ | refine PT.faA ?_ | refine PT.bnA ?_ | refine PT.callG rfl (m_rinverseW _ hd1) rfl rfl ?_ | refine PT.ixA ?_))))
      have hf := W_mod (l[i].Y * inv d)
      generalize hfe : l[i].Y * inv d % 65521 = f
      rw [hfe] at hf
      refine VT.loop (fun j a H g3 => ∃ (k : Nat) (q : List Int), j = l.length - k ∧ k ≤ l.length ∧ q = DM.aI f o p k ∧ a = [(0, .sl (l.map eDot)), (3, .ms 0 0 l.length l.length), (4, wI i), (5, .fl (p.map eI)), (8, wI f), (9, wI k)] ∧ H = [.live 1 (q.map eI)] ∧ g3 = g2) rfl
        ⟨_, _, _, ⟨0, o, rfl, Nat.zero_le _, (DM.aI_zero f o p).symm, rfl, rfl, rfl⟩, fgA⟩ ?_
      rintro j a H g3 ⟨k, q, rfl, hk3, hq, rfl, rfl, rfl⟩
      have hql : q.length = l.length := by rw [hq, DM.aI_length hpo (by omega)]; omega
      by_cases hlt3 : k < l.length
      · obtain ⟨e, rest, he, hqe, hs⟩ := DM.aI_step (f := f) hpo (show k < o.length by omega)
        rw [← hq] at hqe
        have hpk : 0 ≤ p[k] ∧ p[k] ≤ 65520 := hpw.1 _ (List.getElem_mem _)
        have hok : 0 ≤ o[k] ∧ o[k] ≤ 65520 := by
          have := DM.thrS_W (dX l) (dY l) i; rw [← ho] at this; exact this _ (List.getElem_mem _)
        have e1 : q[k]'(by omega) = o[k] := DM.get1' hqe he _
        have hm3 := mulW hpk hf
        repeat (any_goals (first | (refine d_RT ?_; (first | refine RT.nil ?_ | refine RT.mvA ?_ | refine RT.asA ?_ | refine RT.bnA ?_ | refine RT.clA ?_)) | (refine d_VT ?_; (first | refine VT.seq rfl ?_ | refine VT.reg rfl ?_ | refine VT.draw [(1, [0]), (1, [0]), (1, [0]), (1, [0]), (1, [0]), (1, [0]), (1, [0]), (1, [0]), (1, [0]), (1, [0]), (1, [0]), (1, [0]), (1, [0]), (1, [0]), (1, [0]), (0, [0])] 2 mixedOk rfl (by decide +kernel) (by decide +kernel) (by decide +kernel) (by first | (simp only [nrm]; rfl) | (simp only [nrm, Nat.reduceAdd, Nat.zero_add]; rfl) | rfl) (by first | (simp only [nrm]; rfl) | (simp only [nrm, Nat.reduceAdd, Nat.zero_add]; rfl) | rfl) ?_ | refine VT.condY rfl rfl (by first | assumption | omega) ?_ | refine VT.block rfl ?_ | refine VT.skip rfl ?_)) | (refine d_PT ?_; (first | refine PT.done (by first | (simp only [nrm]; rfl) | (simp only [nrm, Nat.reduceAdd, Nat.zero_add]; rfl) | rfl) ?_ | refine PT.mvA ?_ | refine PT.ldA ?_ | refine PT.bnA ?_ | refine PT.ixA ?_ | refine PT.stA ?_)) | with_reducible (refine kLn ?_)))
        refine ⟨l.length - (k + 1), by omega, _, _, ⟨k + 1, _, rfl, hlt3, ?_, rfl, rfl, rfl⟩, fgA⟩
        rw [e1, hs, Int.mul_comm p[k] f]
        exact DM.set1' _ hqe he
      · repeat (any_goals (first | (refine d_RT ?_; (first | refine RT.nil ?_ | refine RT.mvA ?_ | refine RT.asA ?_ | refine RT.bnA ?_ | refine RT.clA ?_)) | (refine d_VT ?_; (first | refine VT.seq rfl ?_ | refine VT.reg rfl ?_ | refine VT.condN rfl rfl (by first | assumption | omega) ?_ | refine VT.exit rfl ?_)) | with_reducible (refine kLn ?_)))
        exact ⟨l.length - (i + 1), by omega, _, _, ⟨i + 1, q, rfl, hlt, by rw [hq, DM.aI_last hpo (by omega), DM.thrS, dX_len, hpd, dY_get l hlt, ← ho, hfe], rfl, rfl, rfl⟩, fgA⟩
  · repeat (any_goals (first | (refine d_RT ?_; (first | refine RT.nil ?_ | refine RT.mvA ?_ | refine RT.asA ?_ | refine RT.bnA ?_ | refine RT.clA ?_)) | (refine d_VT ?_; (first | refine VT.seq rfl ?_ | refine VT.reg rfl ?_ | refine VT.condN rfl rfl (by first | assumption | omega) ?_ | refine VT.exit rfl ?_ | refine VT.ret rfl ?_)) | (with_reducible refine d_kEr ?_; refine kEr rfl ?_)))
    exact (snapRW (o := o) rfl hol.symm).trans (by rw [ho, show i = l.length by omega, DM.through, dX_len])
end Go.DL
