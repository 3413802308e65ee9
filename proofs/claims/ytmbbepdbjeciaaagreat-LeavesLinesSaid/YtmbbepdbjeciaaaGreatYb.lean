/- The reference's leaves of data. -/
import Derived.Test.YtmbbepdbjeciaaaGreatZy
set_option maxRecDepth 100000
set_option maxHeartbeats 16000000
namespace Go.DL
open Go.Proofs Go


theorem m_RData (s : Shape) (d : List (List Int)) (hl : d.length ≤ 4611686018427387904) (hd : ∀ x, x ∈ d → x.length ≤ 4611686018427387904) : Maps Tryz.prog 72 [dSh s, .sl (d.map eRow)] (wB (DataS s d)) := by
  refine Maps.vt pok Tryz.f72 (n := 33) (rs := [.tmp 4]) rfl rfl rfl rfl rfl rfl fun g => ?_
  unfold DataS
  by_cases h : (d.length : Int) = s.Data
  · rw [decide_eq_true h, Bool.true_and]
    repeat (any_goals (first | (refine d_RT ?_; (first | refine RT.nil ?_ | refine RT.mvA ?_ | refine RT.asA ?_ | refine RT.ldA ?_ | refine RT.faA ?_ | refine RT.bnA ?_ | refine RT.clA ?_ | refine RT.nwA ?_)) | (refine d_VT ?_; (first | refine VT.seq rfl ?_ | refine VT.reg rfl ?_ | refine VT.condN rfl rfl (by first | assumption | omega) ?_ | refine VT.block rfl ?_ | refine VT.skip rfl ?_))))
    refine VT.loop (fun j a H g' => ∃ k : Nat, j = d.length - k ∧ k ≤ d.length ∧ (d.take k).all (rowOk s) = true ∧ a = [(1, .sl (d.map eRow)), (2, .mp 0 0 0), (5, wI k)] ∧ H = [.live 3 [eShape s]] ∧ g' = g) rfl
      ⟨_, _, _, ⟨0, rfl, Nat.zero_le _, rfl, rfl, rfl, rfl⟩, Wk.fg ⟨by (repeat first | exact True.intro | refine And.intro ?_ ?_ | exact Or.inr (Or.inl rfl) | exact Or.inl rfl | (refine DLe.i rfl ?_; omega) | (refine DLe.i rfl ?_; simp; done)), rfl, (by first | decide | exact Nat.zero_le _ | exact Nat.le_refl _ | (first | omega | (simp only [List.length_set, List.length_replicate, List.length_append, List.length_map, List.length_cons, List.length_nil]; omega))), (by first | rfl | simp_all [lowB]), by (repeat first | exact bb_nil | refine bb_cons ?_ ?_ | exact eI_low _ _ | exact eDot_low _ _ | exact eDot_low _ _ | exact bb_dead | exact bb_free | exact bb_lit rfl | (simp [BlkBelow, lowB]; done))⟩⟩ ?_
    rintro j a H g' ⟨k, rfl, hk, hn, rfl, rfl, rfl⟩
    by_cases hlt : k < d.length
    · have ha := m_rwords d[k] (hd _ (List.getElem_mem hlt))
      have hbad : rowOk s d[k] = false → d.all (rowOk s) = false := fun e => List.all_eq_false.2 ⟨d[k], List.getElem_mem hlt, by simp [e]⟩
      by_cases q2 : (d[k].length : Int) = s.Width
      · cases q3 : d[k].all (fun a => decide (W a)) with
        | true =>
          rw [q3] at ha
          repeat (any_goals (first | (refine d_RT ?_; (first | refine RT.nil ?_ | refine RT.mvA ?_ | refine RT.asA ?_ | refine RT.bnA ?_ | refine RT.clA ?_)) | (refine d_VT ?_; (first | refine VT.seq rfl ?_ | refine VT.reg rfl ?_ | refine VT.draw [(0, []), (0, []), (0, []), (0, []), (0, []), (0, []), (0, []), (0, []), (0, []), (0, []), (0, []), (0, []), (0, []), (0, []), (0, []), (0, [])] 1 mixedOk rfl (by decide +kernel) (by decide +kernel) (by decide +kernel) (by first | (simp only [nrm]; rfl) | (simp only [nrm, Nat.reduceAdd, Nat.zero_add]; rfl) | rfl) (by first | (simp only [nrm]; rfl) | (simp only [nrm, Nat.reduceAdd, Nat.zero_add]; rfl) | rfl) ?_ | refine VT.condF rfl rfl ?_ | refine VT.condY rfl rfl (by first | assumption | omega) ?_ | refine VT.block rfl ?_ | refine VT.skip rfl ?_)) | (refine d_PT ?_; (first | refine PT.done (by first | (simp only [nrm]; rfl) | (simp only [nrm, Nat.reduceAdd, Nat.zero_add]; rfl) | rfl) ?_ | refine PT.v (f_neqF rfl rfl q2) ?_ | refine PT.gy rfl ?_ | refine PT.mvA ?_ | refine PT.ldA ?_ | refine PT.faA ?_ | (refine p_call ?_; (first | refine PT.callG rfl (ha) rfl rfl ?_ | refine PT.clA ?_)) | refine PT.pkA ?_ | refine PT.ixA ?_ | refine PT.unA ?_)) | with_reducible (refine kLn ?_)))
          exact ⟨d.length - (k + 1), by omega, _, _, ⟨k + 1, rfl, hlt, all_snoc hlt hn (by rw [rowOk, decide_eq_true q2, q3]; rfl), rfl, rfl, rfl⟩, Wk.fg ⟨by (repeat first | exact True.intro | refine And.intro ?_ ?_ | exact Or.inr (Or.inl rfl) | exact Or.inl rfl | (refine DLe.i rfl ?_; omega) | (refine DLe.i rfl ?_; simp; done)), rfl, (by first | decide | exact Nat.zero_le _ | exact Nat.le_refl _ | (first | omega | (simp only [List.length_set, List.length_replicate, List.length_append, List.length_map, List.length_cons, List.length_nil]; omega))), (by first | rfl | simp_all [lowB]), by (repeat first | exact bb_nil | refine bb_cons ?_ ?_ | exact eI_low _ _ | exact eDot_low _ _ | exact eDot_low _ _ | exact bb_dead | exact bb_free | exact bb_lit rfl | (simp [BlkBelow, lowB]; done))⟩⟩
        | false =>
          rw [q3] at ha
          rw [hbad (by rw [rowOk, q3]; simp)]
          repeat (any_goals (first | (refine d_RT ?_; (first | refine RT.nil ?_ | refine RT.mvA ?_ | refine RT.asA ?_ | refine RT.bnA ?_ | refine RT.clA ?_)) | (refine d_VT ?_; (first | refine VT.seq rfl ?_ | refine VT.reg rfl ?_ | refine VT.draw [(0, []), (0, []), (0, []), (0, []), (0, []), (0, []), (0, []), (0, []), (0, []), (0, []), (0, []), (0, []), (0, []), (0, []), (0, []), (0, [])] 1 mixedOk rfl (by decide +kernel) (by decide +kernel) (by decide +kernel) (by first | (simp only [nrm]; rfl) | (simp only [nrm, Nat.reduceAdd, Nat.zero_add]; rfl) | rfl) (by first | (simp only [nrm]; rfl) | (simp only [nrm, Nat.reduceAdd, Nat.zero_add]; rfl) | rfl) ?_ | refine VT.condT rfl rfl ?_ | refine VT.condY rfl rfl (by first | assumption | omega) ?_ | refine VT.block rfl ?_ | refine VT.skip rfl ?_ | refine VT.ret rfl ?_)) | (refine d_PT ?_; (first | refine PT.done (by first | (simp only [nrm]; rfl) | (simp only [nrm, Nat.reduceAdd, Nat.zero_add]; rfl) | rfl) ?_ | refine PT.v (f_neqF rfl rfl q2) ?_ | refine PT.gy rfl ?_ | refine PT.mvA ?_ | refine PT.ldA ?_ | refine PT.faA ?_ | (refine p_call ?_; (first | refine PT.callG rfl (ha) rfl rfl ?_ | refine PT.clA ?_)) | refine PT.pkA ?_ | refine PT.ixA ?_ | refine PT.unA ?_)) | (with_reducible first | refine kSr ?_ | refine kBr ?_ | refine kLr ?_) | (with_reducible refine d_kEr ?_; refine kEr rfl ?_)))
          rfl
      · rw [hbad (by rw [rowOk, decide_eq_false q2]; rfl)]
        repeat (any_goals (first | (refine d_RT ?_; (first | refine RT.nil ?_ | refine RT.mvA ?_ | refine RT.asA ?_ | refine RT.bnA ?_ | refine RT.clA ?_)) | (refine d_VT ?_; (first | refine VT.seq rfl ?_ | refine VT.reg rfl ?_ | refine VT.draw [(0, []), (0, []), (0, []), (0, []), (0, []), (0, []), (0, []), (0, []), (0, []), (0, []), (0, []), (0, []), (0, []), (0, []), (0, []), (0, [])] 1 mixedOk rfl (by decide +kernel) (by decide +kernel) (by decide +kernel) (by first | (simp only [nrm]; rfl) | (simp only [nrm, Nat.reduceAdd, Nat.zero_add]; rfl) | rfl) (by first | (simp only [nrm]; rfl) | (simp only [nrm, Nat.reduceAdd, Nat.zero_add]; rfl) | rfl) ?_ | refine VT.condT rfl rfl ?_ | refine VT.condY rfl rfl (by first | assumption | omega) ?_ | refine VT.block rfl ?_ | refine VT.skip rfl ?_ | refine VT.ret rfl ?_)) | (refine d_PT ?_; (first | refine PT.done (by first | (simp only [nrm]; rfl) | (simp only [nrm, Nat.reduceAdd, Nat.zero_add]; rfl) | rfl) ?_ | refine PT.v (f_neqT rfl rfl q2) ?_ | refine PT.gn rfl rfl ?_ | refine PT.mvA ?_ | refine PT.ldA ?_ | refine PT.faA ?_ | refine PT.clA ?_ | refine PT.pkA ?_ | refine PT.ixA ?_)) | (with_reducible first | refine kSr ?_ | refine kBr ?_ | refine kLr ?_) | (with_reducible refine d_kEr ?_; refine kEr rfl ?_)))
        rfl
    · rw [List.take_of_length_le (by omega)] at hn
      rw [hn]
      repeat (any_goals (first | (refine d_RT ?_; (first | refine RT.nil ?_ | refine RT.mvA ?_ | refine RT.asA ?_ | refine RT.bnA ?_ | refine RT.clA ?_)) | (refine d_VT ?_; (first | refine VT.seq rfl ?_ | refine VT.reg rfl ?_ | refine VT.condN rfl rfl (by first | assumption | omega) ?_ | refine VT.exit rfl ?_ | refine VT.ret rfl ?_)) | (with_reducible refine d_kEr ?_; refine kEr rfl ?_)))
      rfl
  · rw [decide_eq_false h, Bool.false_and]
    repeat (any_goals (first | (refine d_RT ?_; (first | refine RT.nil ?_ | refine RT.mvA ?_ | refine RT.asA ?_ | refine RT.ldA ?_ | refine RT.faA ?_ | refine RT.bnA ?_ | refine RT.clA ?_ | refine RT.nwA ?_)) | (refine d_VT ?_; (first | refine VT.seq rfl ?_ | refine VT.reg rfl ?_ | refine VT.condY rfl rfl (by first | assumption | omega) ?_ | refine VT.ret rfl ?_)) | with_reducible (refine kSr ?_) | (with_reducible refine d_kEr ?_; refine kEr rfl ?_)))
    rfl
end Go.DL
