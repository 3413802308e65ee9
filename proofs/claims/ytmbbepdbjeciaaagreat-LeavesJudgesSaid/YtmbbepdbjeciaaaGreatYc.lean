/- The reference's leaves of data, all of them. -/
import Derived.Test.YtmbbepdbjeciaaaGreatYb
set_option linter.all false
set_option maxRecDepth 100000
set_option maxHeartbeats 16000000
namespace Go.DL
open Go.Proofs Go

def fR (w i : Nat) : List D := [wI ((i : Int) + 1), .ms (i + 2) 0 w w]
theorem fR_low {w k K : Nat} (h : k + 2 ≤ K) : BlkBelow K (.live 2 ((List.range k).map (fR w))) := by
  intro e he x hx
  obtain ⟨i, hi, rfl⟩ := List.mem_map.1 he
  rw [List.mem_range] at hi
  simp only [fR, List.mem_cons, List.not_mem_nil, or_false] at hx
  rcases hx with rfl | rfl
  · rfl
  · simp [lowB]; omega
theorem fR_no {w n : Nat} {l : List Nat} (h : ∀ i, i ∈ l → i ≤ n) : BlkNo (n + 4) 1 (.live 2 (l.map (fR w))) := by
  intro e he x hx
  obtain ⟨i, hi, rfl⟩ := List.mem_map.1 he
  have := h i hi
  simp only [fR, List.mem_cons, List.not_mem_nil, or_false] at hx
  rcases hx with rfl | rfl
  · rfl
  · have h1 : Nat.beq (i + 2) (n + 4) = false := by
      cases hh : Nat.beq (i + 2) (n + 4) with
      | false => rfl
      | true => exact absurd (Nat.eq_of_beq_eq_true hh) (by omega)
    simp only [noB, h1]; rfl
theorem snapR_leaves2 {lk : Nat → Option Blk} {N w : Nat} {d : List (List Int)} (h1 : lk 1 = some (.live 2 ((List.range N).map (fR w)))) (h2 : ∀ i, i < N → lk (i + 2) = some (.live 1 ((rowF d w i w 0).map eI))) :
    snapR lk 5 (.ms 1 0 N N) = .fl ((wholeL N w d).map eLeaf) := by
  have hl : ((List.range N).map (fR w)).length = N := by simp
  simp only [snapR, h1, Nat.zero_add, hl, Nat.le_refl, if_true, List.drop_zero]
  rw [if_pos, List.take_of_length_le (by rw [hl]; exact Nat.le_refl _), List.map_map, wholeL, List.map_map]
  · refine congrArg D.fl (List.map_congr_left fun i hi => ?_)
    rw [List.mem_range] at hi
    have h3 := snapW (k := 3) (m := w) (cap := w) (h2 i hi) (rowF_len d w i w 0).symm
    show [wI ((i : Int) + 1), snap lk 4 (.ms (i + 2) 0 w w)] = _
    rw [h3, rowF_last]; rfl
  · refine List.all_eq_true.2 fun e he => ?_
    obtain ⟨i, hi, rfl⟩ := List.mem_map.1 he
    rw [List.mem_range] at hi
    have h3 : frK lk 4 (.ms (i + 2) 0 w w) = true := by
      simp only [frK, h2 i hi]
      exact eI_all _ _ fun x => rfl
    show (frK lk 4 _ && (frK lk 4 (.ms (i + 2) 0 w w) && true)) = true
    rw [h3]; rfl
theorem m_Rwhole (s : Shape) (d : List (List Int)) (h : CkOk s) (hd : dataW s.Width.toNat d) : Maps Tryz.prog 73 [dSh s, .sl (d.map eRow)] (.fl ((wholeL (s.Data + s.Checks).toNat s.Width.toNat d).map eLeaf)) := by
  refine Maps.vt pok Tryz.f73 (n := 54) (rs := [.tmp 4]) rfl rfl rfl rfl rfl rfl fun g => ?_
  obtain ⟨N, hN⟩ : ∃ N : Nat, s.Data + s.Checks = (N : Int) := Int.eq_ofNat_of_zero_le (by omega)
  obtain ⟨w, hw⟩ : ∃ w : Nat, s.Width = (w : Int) := Int.eq_ofNat_of_zero_le (by omega)
  rw [hN, hw, Int.toNat_natCast, Int.toNat_natCast]
  rw [hw, Int.toNat_natCast] at hd
  repeat (any_goals (first | (refine d_RT ?_; (first | refine RT.nil ?_ | refine RT.asA ?_ | refine RT.nwA ?_)) | (refine d_VT ?_; (first | refine VT.seq rfl ?_ | refine VT.reg rfl ?_ | refine VT.block rfl ?_))))
  refine VT.phantom (i := 5) (s := 1) (H' := [.live 3 [eShape s], .live 2 []]) 2 rfl rfl rfl ?_
  refine VT.loop (fun j a H g' => ∃ (ws : List Blk) (o : List Nat), j = N - ws.length ∧ ws.length ≤ N ∧ ws = List.replicate ws.length (.live 1 ((List.replicate w 0).map eI)) ∧ o = List.range ws.length ∧ a = [(1, .sl (d.map eRow)), (2, .mp 0 0 0), (5, .ms 1 0 o.length o.length), (6, wI ((ws.length : Int) + 1))] ∧ H = .live 3 [eShape s] :: .live 2 (o.map (fR w)) :: ws ∧ g' = g) rfl
    ⟨_, _, _, ⟨[], [], rfl, Nat.zero_le _, rfl, rfl, rfl, rfl, rfl⟩, fgA⟩ ?_
  rintro j a H g' ⟨ws, o, rfl, hk, hws, ho, rfl, rfl, rfl⟩
  have hol : o.length = ws.length := by rw [ho, List.length_range]
  by_cases hlt : ws.length < N
  · repeat (any_goals (first | (refine d_RT ?_; (first | refine RT.nil ?_ | refine RT.new rfl (f_make (z := [wI 0]) (sz := 1) (m := w) (by' := 8) rfl rfl rfl rfl rfl (by decide) rfl hw (by omega) (by omega)) rfl ?_ | (refine d_bld ?_; refine RT.v (f_build (d := .agg (fR w ws.length)) rfl) ?_) | refine RT.new (s := ws.length + 3) (by simp) (f_bsl (ps := [(0, .tmp 24)]) (sz := 2) (es := [fR w ws.length]) rfl) (H' := .live 3 [eShape s] :: .live 2 (o.map (fR w)) :: (ws ++ [.live 1 (List.replicate w [wI 0]), .live 2 [fR w ws.length]])) (by simp) ?_ | refine RT.ap (s := ws.length + 4) (by simp) (f_appG (f := fR w) (o := o) (v := [ws.length]) (by' := 32) rfl rfl rfl (by simp) rfl rfl rfl (by decide) rfl rfl (fun _ => ⟨rfl, rfl⟩) (by rw [hol]; simp; omega) (by rw [hol]; simp; omega)) (H' := .live 3 [eShape s] :: .dead :: (ws ++ [.live 1 (List.replicate w [wI 0]), .live 2 [fR w ws.length], .live 2 ((o ++ [ws.length]).map (fR w))])) (by simp [killO]) ?_ | refine RT.mvA ?_ | refine RT.asA ?_ | refine RT.ldA ?_ | refine RT.faA ?_ | refine RT.bnA ?_)) | (refine d_VT ?_; (first | refine VT.seq rfl ?_ | refine VT.reg rfl ?_ | refine VT.condY rfl rfl (by first | assumption | omega) ?_ | refine VT.block rfl ?_ | refine VT.skip rfl ?_)) | with_reducible (refine kLn ?_)))
    have hz : Blk.live 1 (List.replicate w [wI 0]) = .live 1 ((List.replicate w 0).map eI) := by simp [eI]
    refine ⟨N - (ws ++ [Blk.live 1 (List.replicate w [wI 0])]).length, by simp; omega, _, _, ⟨ws ++ [.live 1 (List.replicate w [wI 0])], o ++ [ws.length], rfl, by simp; omega, ?_, ?_, rfl, rfl, rfl⟩, ?_⟩
    · rw [List.length_append, List.length_singleton, List.replicate_succ', ← hws, hz]
    · rw [List.length_append, List.length_singleton, List.range_succ, ← ho]
    · refine (Wk.mv (k := ws.length + 4) (s := 1) (a' := [(1, .sl (d.map eRow)), (2, .mp 0 0 0), (5, .ms 1 0 (o ++ [ws.length]).length (o ++ [ws.length]).length), (6, wI ((ws.length : Int) + 1 + 1))]) (H' := .live 3 [eShape s] :: .live 2 ((o ++ [ws.length]).map (fR w)) :: ((ws ++ [Blk.live 1 (List.replicate w [wI 0])]) ++ [.live 2 [fR w ws.length], .dead])) rfl (by simp) rfl (Nat.zero_le _) (Nat.zero_le _) (by (repeat first | exact True.intro | refine And.intro ?_ ?_ | exact Or.inr (Or.inr (Or.inl ⟨_, _, _, rfl, rfl⟩)) | exact Or.inr (Or.inl ⟨rfl, rfl⟩) | exact Or.inl rfl)) ?_ ?_).trans ?_
      · refine bn_cons (bn_lit rfl) (bn_cons bn_dead fun b hb => ?_)
        rcases List.mem_append.1 hb with h1 | h1
        · rw [hws] at h1
          rw [(List.mem_replicate.1 h1).2]; exact eI_no _ _ _
        · simp only [List.mem_cons, List.not_mem_nil, or_false] at h1
          rcases h1 with rfl | rfl | rfl
          · rw [hz]; exact eI_no _ _ _
          · exact fR_no (l := [ws.length]) (fun i hi => by rw [List.mem_singleton.1 hi]; exact Nat.le_refl _)
          · refine fR_no fun i hi => ?_
            rcases List.mem_append.1 hi with h2 | h2
            · rw [ho, List.mem_range] at h2; omega
            · rw [List.mem_singleton.1 h2]; exact Nat.le_refl _
      · simp [List.getElem?_append_right, List.set_append_right]
      · rw [show (((ws ++ [Blk.live 1 (List.replicate w [wI 0])]).length : Nat) : Int) + 1 = (ws.length : Int) + 1 + 1 by simp]
        show Wk _ 54 _ ([.live 3 [eShape s], .live 2 ((o ++ [ws.length]).map (fR w))] ++ ((ws ++ [.live 1 (List.replicate w [wI 0])]) ++ [.live 2 [fR w ws.length], .dead])) _ ([.live 3 [eShape s], .live 2 ((o ++ [ws.length]).map (fR w))] ++ (ws ++ [.live 1 (List.replicate w [wI 0])]))
        refine fg_ws (by (repeat first | exact True.intro | refine And.intro ?_ ?_ | exact Or.inr (Or.inl rfl) | exact Or.inl rfl | (refine DLe.i rfl ?_; omega) | (refine DLe.i rfl ?_; simp; done))) (Nat.zero_le _) rfl (bb_cons (bb_lit rfl) (bb_cons ?_ bb_nil)) fun b hb => ?_
        · rw [ho, ← List.range_succ]
          exact fR_low (by simp)
        · rcases List.mem_append.1 hb with h1 | h1
          · rw [hws] at h1
            rw [(List.mem_replicate.1 h1).2]; exact eI_low _ _
          · rw [List.mem_singleton.1 h1, hz]; exact eI_low _ _
  · have hwl : ws.length = N := by omega
    rw [hwl] at hol ho
    rw [hwl] at hws
    rw [← wsF_zero d N w] at hws
    subst hws
    repeat (any_goals (first | (refine d_RT ?_; (first | refine RT.nil ?_ | refine RT.mvA ?_ | refine RT.asA ?_ | refine RT.ldA ?_ | refine RT.faA ?_ | refine RT.bnA ?_)) | (refine d_VT ?_; (first | refine VT.seq rfl ?_ | refine VT.reg rfl ?_ | refine VT.condN rfl rfl (by first | assumption | omega) ?_ | refine VT.block rfl ?_ | refine VT.exit rfl ?_))))
    refine VT.loop (fun jj a H g2 => ∃ j : Nat, jj = w - j ∧ j ≤ w ∧ a = [(1, .sl (d.map eRow)), (2, .mp 0 0 0), (5, .ms 1 0 o.length o.length), (7, wI j)] ∧ H = .live 3 [eShape s] :: .live 2 (o.map (fR w)) :: wsF d N w j 0 ∧ g2 = g') rfl
      ⟨_, _, _, ⟨0, rfl, Nat.zero_le _, rfl, rfl, rfl⟩, ?_⟩ ?_
    · show Wk _ 54 _ ([.live 3 [eShape s], .live 2 (o.map (fR w))] ++ wsF d N w 0 0) _ ([.live 3 [eShape s], .live 2 (o.map (fR w))] ++ wsF d N w 0 0)
      exact fg_ws0 (by (repeat first | exact True.intro | refine And.intro ?_ ?_ | exact Or.inr (Or.inl rfl) | exact Or.inl rfl | (refine DLe.i rfl ?_; omega) | (refine DLe.i rfl ?_; simp; done))) (Nat.zero_le _) rfl (bb_cons (bb_lit rfl) (bb_cons (by rw [ho]; exact fR_low (by simp [wsF_len])) bb_nil)) (fun b hb => wsF_low d N w _ _ [] (fun _ h => by cases h) b (by rw [List.append_nil]; exact hb))
    rintro jj a H g2 ⟨j, rfl, hjw, rfl, rfl, rfl⟩
    by_cases hj : j < w
    · repeat (any_goals (first | (refine d_RT ?_; (first | refine RT.nil ?_ | refine RT.mvA ?_ | refine RT.asA ?_ | refine RT.ldA ?_ | refine RT.faA ?_ | refine RT.bnA ?_ | refine RT.callM rfl (m_column w d hd j hj) rfl rfl ?_)) | (refine d_VT ?_; (first | refine VT.seq rfl ?_ | refine VT.reg rfl ?_ | refine VT.condY rfl rfl (by first | assumption | omega) ?_ | refine VT.block rfl ?_ | refine VT.skip rfl ?_))))
      refine VT.loop (fun jj a H g3 => ∃ (i : Nat) (ws : List Blk), jj = N - i ∧ i ≤ N ∧ ws = wsF d N w j i ∧ a = [(1, .sl (d.map eRow)), (2, .mp 0 0 0), (5, .ms 1 0 o.length o.length), (7, wI j), (8, .fl ((colS d j).map eI)), (9, wI i)] ∧ H = .live 3 [eShape s] :: .live 2 (o.map (fR w)) :: ws ∧ g3 = g2) rfl
        ⟨_, _, _, ⟨0, wsF d N w j 0, rfl, Nat.zero_le _, rfl, rfl, rfl, rfl⟩, ?_⟩ ?_
      · show Wk _ 54 _ ([.live 3 [eShape s], .live 2 (o.map (fR w))] ++ wsF d N w j 0) _ ([.live 3 [eShape s], .live 2 (o.map (fR w))] ++ wsF d N w j 0)
        exact fg_ws0 (by (repeat first | exact True.intro | refine And.intro ?_ ?_ | exact Or.inr (Or.inl rfl) | exact Or.inl rfl | (refine DLe.i rfl ?_; omega) | (refine DLe.i rfl ?_; simp; done))) (Nat.zero_le _) rfl (bb_cons (bb_lit rfl) (bb_cons (by rw [ho]; exact fR_low (by simp [wsF_len])) bb_nil)) (fun b hb => wsF_low d N w _ _ [] (fun _ h => by cases h) b (by rw [List.append_nil]; exact hb))
      rintro jj a H g3 ⟨i, ws, rfl, hi, hws2, rfl, rfl, rfl⟩
      by_cases hlt2 : i < N
      · have hcw : allW (colS d j) := DM.through_W _ _
        have hcl : (colS d j).length ≤ 4611686018427387904 := by
          have h1 := hd.1
          rw [colS, DM.through_len, dX_len, dotsC_len]; omega
        have hv := m_rvalue (colS d j) ((i : Int) + 1) hcl hcw ⟨by omega, by omega⟩
        have hwl2 : ws.length = N := by rw [hws2, wsF_len]
        have hget : (o.map (fR w))[i]? = some (fR w i) := by rw [ho]; simp [hlt2]
        have hg2 : (ws ++ [Blk.free, .free])[i]? = some (.live 1 ((rowF d w i j i).map eI)) := by
          rw [List.getElem?_append_left (by omega), hws2]; exact wsF_get d hlt2
        have hst : (ws ++ [Blk.free, .free]).set i (.live 1 (((rowF d w i j i).set j (horner (colS d j) ((i : Int) + 1))).map eI)) = wsF d N w j (i + 1) ++ [.free, .free] := by
          rw [List.set_append_left _ _ (by omega), hws2, wsF_set d hlt2 hj]
        repeat (any_goals (first | (refine d_RT ?_; (first | refine RT.nil ?_ | refine RT.mvA ?_ | refine RT.asA ?_ | refine RT.bnA ?_ | refine RT.clA ?_)) | (refine d_VT ?_; (first | refine VT.seq rfl ?_ | refine VT.reg rfl ?_ | refine VT.draw [(1, [0]), (1, [0]), (1, [0]), (1, [0]), (1, [0]), (1, [0]), (1, [0]), (1, [0]), (1, [0]), (1, [0]), (1, [0]), (0, [0])] 2 mixedOk rfl (by decide +kernel) (by decide +kernel) (by decide +kernel) (by first | (simp only [nrm]; rfl) | (simp only [nrm, Nat.reduceAdd, Nat.zero_add]; rfl) | rfl) (by first | (simp only [nrm]; rfl) | (simp only [nrm, Nat.reduceAdd, Nat.zero_add]; rfl) | rfl) ?_ | refine VT.condY rfl rfl (by first | assumption | omega) ?_ | refine VT.block rfl ?_ | refine VT.skip rfl ?_)) | (refine d_PT ?_; (first | refine PT.vI (mask_app (H0 := _ :: _ :: ws) (T := [_, _]) rfl) (f_ldO rfl rfl hget rfl rfl) ?_ | refine PT.vI (mask_app (H0 := _ :: _ :: ws) (T := [_, _]) rfl) (f_ixO0 rfl rfl (by first | with_reducible exact castR _ | rfl) hg2 rfl (by omega)) ?_ | refine PT.wrI (mask_app (H0 := _ :: _ :: ws) (T := [_, _]) rfl) (f_stW rfl hg2 (by rw [rowF_len]; exact hj) rfl rfl) (H' := .live 3 [eShape s] :: .live 2 (o.map (fR w)) :: (wsF d N w j (i + 1) ++ [.free, .free])) (by rw [← hst]; rfl) ?_ | refine PT.done (H' := .live 3 [eShape s] :: .live 2 (o.map (fR w)) :: (wsF d N w j (i + 1) ++ [.free])) (by simp [List.dropLast]) ?_ | refine PT.mvI (mask_app (H0 := _ :: _ :: ws) (T := [_, _]) rfl) ?_ | refine PT.faI (mask_app (H0 := _ :: _ :: ws) (T := [_, _]) rfl) ?_ | refine PT.bnI (mask_app (H0 := _ :: _ :: ws) (T := [_, _]) rfl) ?_ | refine PT.callI (mask_app (H0 := _ :: _ :: ws) (T := [_, _]) rfl) rfl (hv) (by first | (simp only [nrm]; rfl) | (simp only [nrm, Nat.reduceAdd, Nat.zero_add]; rfl) | rfl) rfl ?_ | refine PT.ixI (mask_app (H0 := _ :: _ :: ws) (T := [_, _]) rfl) ?_)) | with_reducible (refine kLn ?_)))
        refine ⟨N - (i + 1), by omega, _, _, ⟨i + 1, wsF d N w j (i + 1), rfl, hlt2, rfl, rfl, rfl, rfl⟩, ?_⟩
        show Wk _ 54 _ ([.live 3 [eShape s], .live 2 (o.map (fR w))] ++ (wsF d N w j (i + 1) ++ [.free])) _ ([.live 3 [eShape s], .live 2 (o.map (fR w))] ++ wsF d N w j (i + 1))
        exact fg_ws (by (repeat first | exact True.intro | refine And.intro ?_ ?_ | exact Or.inr (Or.inl rfl) | exact Or.inl rfl | (refine DLe.i rfl ?_; omega) | (refine DLe.i rfl ?_; simp; done))) (Nat.zero_le _) rfl (bb_cons (bb_lit rfl) (bb_cons (by rw [ho]; exact fR_low (by simp [wsF_len])) bb_nil)) (fun b hb => wsF_low d N w _ _ [] (fun _ h => by cases h) b (by rw [List.append_nil]; exact hb))
      · obtain rfl : i = N := by omega
        rw [wsF_next] at hws2
        subst hws2
        repeat (any_goals (first | (refine d_RT ?_; (first | refine RT.nil ?_ | refine RT.mvA ?_ | refine RT.asA ?_ | refine RT.bnA ?_ | refine RT.clA ?_)) | (refine d_VT ?_; (first | refine VT.seq rfl ?_ | refine VT.reg rfl ?_ | refine VT.condN rfl rfl (by first | assumption | omega) ?_ | refine VT.exit rfl ?_)) | with_reducible (refine kLn ?_)))
        refine ⟨w - (j + 1), by omega, _, _, ⟨j + 1, rfl, hj, rfl, rfl, rfl⟩, ?_⟩
        show Wk _ 54 _ ([.live 3 [eShape s], .live 2 (o.map (fR w))] ++ wsF d i w (j + 1) 0) _ ([.live 3 [eShape s], .live 2 (o.map (fR w))] ++ wsF d i w (j + 1) 0)
        exact fg_ws0 (by (repeat first | exact True.intro | refine And.intro ?_ ?_ | exact Or.inr (Or.inl rfl) | exact Or.inl rfl | (refine DLe.i rfl ?_; omega) | (refine DLe.i rfl ?_; simp; done))) (Nat.zero_le _) rfl (bb_cons (bb_lit rfl) (bb_cons (by rw [ho]; exact fR_low (by simp [wsF_len])) bb_nil)) (fun b hb => wsF_low d i w _ _ [] (fun _ h => by cases h) b (by rw [List.append_nil]; exact hb))
    · obtain rfl : j = w := by omega
      repeat (any_goals (first | (refine d_RT ?_; (first | refine RT.nil ?_ | refine RT.mvA ?_ | refine RT.asA ?_ | refine RT.ldA ?_ | refine RT.faA ?_ | refine RT.bnA ?_)) | (refine d_VT ?_; (first | refine VT.seq rfl ?_ | refine VT.reg rfl ?_ | refine VT.condN rfl rfl (by first | assumption | omega) ?_ | refine VT.exit rfl ?_ | refine VT.ret rfl ?_)) | (with_reducible refine d_kEr ?_; refine kEr rfl ?_)))
      rw [hol, ho]
      refine snapR_leaves2 (lk := fun b => (Blk.live 3 [eShape s] :: .live 2 ((List.range N).map (fR j)) :: wsF d N j j 0)[b]?) rfl fun i hi => ?_
      exact wsF_get d hi
end Go.DL
