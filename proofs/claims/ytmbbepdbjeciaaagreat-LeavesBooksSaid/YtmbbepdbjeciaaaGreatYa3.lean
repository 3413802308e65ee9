/- slices.DeleteFunc of lines. -/
import Derived.Test.YtmbbepdbjeciaaaGreatYa1
import Derived.Test.YtmbbepdbjeciaaaGreatE6
set_option maxRecDepth 100000
set_option maxHeartbeats 16000000
namespace Go.DL
open Go.Proofs Go
def lateB (day : Int) (x : Line) : Bool := decide (day < x.Day)
theorem m_knownFn (day : Int) (x : Line) : Maps Tryz.prog 105 ([.agg (eLine x)] ++ [.rp [wI day]]) (wB (lateB day x)) := by
  refine Maps.vt pok Tryz.f105 (n := 8) (rs := [.tmp 3]) rfl rfl rfl rfl rfl rfl fun g => ?_
  repeat (any_goals (first | (apply w_any; (first | refine RT.nil ?_ | refine RT.asA ?_ | refine RT.ldA ?_ | refine RT.faA ?_ | refine RT.bnA ?_ | refine RT.nwA ?_)) | (apply v_any; (first | refine VT.seq rfl ?_ | refine VT.reg rfl ?_ | refine VT.ret rfl ?_)) | (with_reducible refine d_kEr ?_; refine kEr rfl ?_)))
  rfl
theorem c_deleteL {H : List Blk} {b pb c : Nat} {l : List Line} {day : Int} (hb : H[b]? = some (.live 4 (l.map eLine))) (hp : H[pb]? = some (.live 1 [[wI day]])) (hl : l.length ≤ 1000) (hc : l.length ≤ c) :
    CallSp Tryz.prog 104 [.ms b 0 l.length c, .fn (.func 105) [] [.mp pb 0 0]] H fun d H' => ∃ (z F : List Line), z = l.filter (fun x => !lateB day x) ∧ d = .ms b 0 z.length c ∧ H'[b]? = some (.live 4 (F.map eLine)) ∧ F.take z.length = z ∧ z.length ≤ F.length := by
  refine CallSp.vt pok Tryz.f104 (n := 42) (rs := [.tmp 4]) rfl rfl rfl rfl rfl rfl rfl fun g => ?_
  have hne : pb ≠ b := fun e => by
    subst e; rw [hb] at hp
    simp only [Option.some.injEq, Blk.live.injEq] at hp
    omega
  have hF := m_idx_Line (p := lateB day) (F := 105) (cs := [.rp [wI day]]) (l := l) (by omega) rfl (fun x _ => m_knownFn day x)
  have hs : ([.ms b 0 l.length c, .fn (.func 105) [] [.mp pb 0 0]] : List D).map (snap (fun b => H[b]?) 5) = [.sl (l.map eLine), .fn (.func 105) [] [.rp [wI day]]] := by
    have h3 : snap (fun b => H[b]?) 5 (.ms b 0 l.length c) = .sl (l.map eLine) := snapLn hb rfl
    rw [List.map_cons, h3]
    simp only [List.map_cons, List.map_nil, snap, hp, List.getElem?_cons_zero, List.drop_zero]
  by_cases hh : ∃ (k0 : Nat) (hk : k0 < l.length), (l.take k0).any (lateB day) = false ∧ lateB day l[k0] = true
  · obtain ⟨k0, hk0, hn, hpk⟩ := hh
    rw [fidx_hit hk0 hn hpk] at hF
    repeat (any_goals (first | (apply w_any; (first | refine RT.nil ?_ | refine RT.mvA ?_ | refine RT.asA ?_ | (apply w_bn; (first | refine RT.v (f_eqlF rfl rfl (by omega)) ?_ | refine RT.bnA ?_)) | (refine d_call ?_; refine RT.callM rfl hF hs rfl ?_))) | (apply v_any; (first | refine VT.seq rfl ?_ | refine VT.reg rfl ?_ | refine VT.condF rfl rfl ?_ | refine VT.block rfl ?_ | refine VT.skip rfl ?_))))
    have hft0 : (l.take (k0 + 1)).filter (fun x => !lateB day x) = l.take k0 := by
      rw [List.take_succ_eq_append_getElem hk0, List.filter_append]
      have e1 : (l.take k0).filter (fun x => !lateB day x) = l.take k0 := by
        rw [List.filter_eq_self]
        intro x hx
        rw [List.any_eq_false] at hn
        simpa using hn x hx
      rw [e1]
      simp [hpk]
    refine VT.loop (fun jj al H2 g' => ∃ (i j : Nat) (E : List Line), jj = l.length - j ∧ j ≤ l.length ∧ i < j ∧ E.length = l.length ∧ E.take i = (l.take j).filter (fun x => !lateB day x) ∧ E.drop j = l.drop j ∧ H2[b]? = some (.live 4 (E.map eLine)) ∧ H2[pb]? = some (.live 1 [[wI day]]) ∧ al = [(0, .ms b 0 l.length c), (1, .fn (.func 105) [] [.mp pb 0 0]), (5, wI i), (6, wI j)] ∧ g' = g) rfl
      ⟨_, _, _, ⟨k0, k0 + 1, l, rfl, hk0, Nat.lt_succ_self _, rfl, hft0.symm, rfl, hb, hp, rfl, rfl⟩, Wk.keep (by (repeat first | exact True.intro | refine And.intro ?_ ?_ | exact Or.inr (Or.inl rfl) | exact Or.inl rfl | (refine DLe.i rfl ?_; omega) | (refine DLe.i rfl ?_; simp; done)))⟩ ?_
    rintro jj al H2 g' ⟨i, j, E, rfl, hj, hij, hEl, hEt, hEd, hb2, hp2, rfl, rfl⟩
    have hne' : b ≠ pb := fun e => hne e.symm
    have hbl := hg_lt hb2
    have hpl := hg_lt hp2
    by_cases hlt : j < l.length
    · have hjE : j < E.length := by omega
      obtain ⟨x, hx⟩ : ∃ x, l[j]? = some x := ⟨_, List.getElem?_eq_getElem hlt⟩
      have hxE : E[j]? = some x := by
        have := congrArg (·[0]?) hEd
        simpa [List.getElem?_drop, hx] using this
      have hEd2 : E.drop (j + 1) = l.drop (j + 1) := by
        have := congrArg (List.drop 1) hEd
        simpa [List.drop_drop, Nat.add_comm] using this
      have hst : (l.take (j + 1)).filter (fun x => !lateB day x) = E.take i ++ (if lateB day x then [] else [x]) := by
        rw [List.take_add_one, hx, List.filter_append, ← hEt]
        cases hlx : lateB day x <;> simp [hlx]
      have hm := m_knownFn day x
      have hsn : ∀ Hh : List Blk, Hh[pb]? = some (.live 1 [[wI day]]) → (([.agg (eLine x)] ++ [.mp pb 0 0]) : List D).map (snap (fun b => Hh[b]?) 5) = [.agg (eLine x)] ++ [.rp [wI day]] := fun Hh h4 => by
        simp only [List.map_cons, List.map_append, List.map_nil, snap, h4, List.getElem?_cons_zero, List.drop_zero]
      cases hlx : lateB day x with
      | true =>
        rw [hlx] at hm
        rw [hlx, if_pos rfl, List.append_nil] at hst
        repeat (any_goals (first | (apply w_any; (first | refine RT.nil ?_ | refine RT.mvA ?_ | refine RT.asA ?_ | (apply w_ld; (first | refine RT.v (f_ldOW rfl hb2 (map_get hxE) rfl rfl rfl) ?_ | refine RT.ldH ?_)) | refine RT.bnA ?_ | (apply w_cl; (first | (refine d_call ?_; refine RT.callM rfl hm (hsn _ (by repeat (first | assumption | exact hg_new | exact hg_at (by first | rfl | simp) rfl | exact hg_self (by first | assumption | omega | (simp only [List.length_set, List.length_append, List.length_cons, List.length_nil, List.length_map, List.length_replicate]; omega)) | refine hg_app _ ?_ | refine hg_ne ?_ (by first | assumption | omega) | refine mskR ?_ (by first | (simp [rho, -List.length_eq_zero_iff]; done) | (simp [rho, -List.length_eq_zero_iff]; omega))))) rfl ?_) | refine RT.clA ?_)) | refine RT.v (f_ixO0 (k := j) rfl rfl rfl hb2 rfl (by omega)) ?_ | refine RT.unA ?_ | refine RT.stH ?_ | refine RT.new (s := H2.length) rfl (f_allocL (z := [wI 0, wI 0, wI 0, wI 0]) (m := 4) rfl rfl) rfl ?_)) | (apply v_any; (first | refine VT.seq rfl ?_ | refine VT.reg rfl ?_ | refine VT.condF rfl rfl ?_ | refine VT.block rfl ?_ | refine VT.skip rfl ?_ | refine VT.condY rfl rfl (by first | assumption | omega) ?_)) | with_reducible (refine kLn ?_)))
        exact ⟨l.length - (j + 1), by omega, _, _, ⟨i, j + 1, E, rfl, hlt, by omega, hEl, hst.symm, hEd2, (by repeat (first | assumption | exact hg_new | exact hg_at (by first | rfl | simp) rfl | exact hg_self (by first | assumption | omega | (simp only [List.length_set, List.length_append, List.length_cons, List.length_nil, List.length_map, List.length_replicate]; omega)) | refine hg_app _ ?_ | refine hg_ne ?_ (by first | assumption | omega) | refine mskR ?_ (by first | (simp [rho, -List.length_eq_zero_iff]; done) | (simp [rho, -List.length_eq_zero_iff]; omega)))), (by repeat (first | assumption | exact hg_new | exact hg_at (by first | rfl | simp) rfl | exact hg_self (by first | assumption | omega | (simp only [List.length_set, List.length_append, List.length_cons, List.length_nil, List.length_map, List.length_replicate]; omega)) | refine hg_app _ ?_ | refine hg_ne ?_ (by first | assumption | omega) | refine mskR ?_ (by first | (simp [rho, -List.length_eq_zero_iff]; done) | (simp [rho, -List.length_eq_zero_iff]; omega)))), rfl, rfl⟩, Wk.keep (by (repeat first | exact True.intro | refine And.intro ?_ ?_ | exact Or.inr (Or.inl rfl) | exact Or.inl rfl | (refine DLe.i rfl ?_; omega) | (refine DLe.i rfl ?_; simp; done)))⟩
      | false =>
        rw [hlx] at hm
        rw [hlx, if_neg (by simp)] at hst
        have hset : (E.set i x).take (i + 1) = E.take i ++ [x] := by
          rw [List.take_add_one, List.take_set_of_le (Nat.le_refl _), List.getElem?_set_self (by omega)]; rfl
        repeat (any_goals (first | (apply w_any; (first | refine RT.nil ?_ | refine RT.mvA ?_ | refine RT.asA ?_ | (apply w_ld; (first | refine RT.v (f_ldOW rfl hb2 (map_get hxE) rfl rfl rfl) ?_ | refine RT.ldH ?_)) | refine RT.bnA ?_ | (apply w_cl; (first | (refine d_call ?_; refine RT.callM rfl hm (hsn _ (by repeat (first | assumption | exact hg_new | exact hg_at (by first | rfl | simp) rfl | exact hg_self (by first | assumption | omega | (simp only [List.length_set, List.length_append, List.length_cons, List.length_nil, List.length_map, List.length_replicate]; omega)) | refine hg_app _ ?_ | refine hg_ne ?_ (by first | assumption | omega) | refine mskR ?_ (by first | (simp [rho, -List.length_eq_zero_iff]; done) | (simp [rho, -List.length_eq_zero_iff]; omega))))) rfl ?_) | refine RT.clA ?_)) | (apply w_ix; (first | refine RT.v (f_ixO0 (k := j) rfl rfl rfl hb2 rfl (by omega)) ?_ | refine RT.v (f_ixO0 (k := i) rfl rfl rfl (by repeat (first | assumption | exact hg_new | exact hg_at (by first | rfl | simp) rfl | exact hg_self (by first | assumption | omega | (simp only [List.length_set, List.length_append, List.length_cons, List.length_nil, List.length_map, List.length_replicate]; omega)) | refine hg_app _ ?_ | refine hg_ne ?_ (by first | assumption | omega) | refine mskR ?_ (by first | (simp [rho, -List.length_eq_zero_iff]; done) | (simp [rho, -List.length_eq_zero_iff]; omega)))) rfl (by omega)) ?_)) | refine RT.unA ?_ | (apply w_st; (first | refine RT.wr (f_stMA (k := i) (v := x) rfl (by repeat (first | assumption | exact hg_new | exact hg_at (by first | rfl | simp) rfl | exact hg_self (by first | assumption | omega | (simp only [List.length_set, List.length_append, List.length_cons, List.length_nil, List.length_map, List.length_replicate]; omega)) | refine hg_app _ ?_ | refine hg_ne ?_ (by first | assumption | omega) | refine mskR ?_ (by first | (simp [rho, -List.length_eq_zero_iff]; done) | (simp [rho, -List.length_eq_zero_iff]; omega)))) (by omega) rfl rfl rfl rfl rfl) rfl ?_ | refine RT.stH ?_)) | refine RT.new (s := H2.length) rfl (f_allocL (z := [wI 0, wI 0, wI 0, wI 0]) (m := 4) rfl rfl) rfl ?_)) | (apply v_any; (first | refine VT.seq rfl ?_ | refine VT.reg rfl ?_ | refine VT.condT rfl rfl ?_ | refine VT.block rfl ?_ | refine VT.skip rfl ?_ | refine VT.condY rfl rfl (by first | assumption | omega) ?_)) | with_reducible (refine kLn ?_)))
        exact ⟨l.length - (j + 1), by omega, _, _, ⟨i + 1, j + 1, E.set i x, rfl, hlt, by omega, by simp [hEl], by rw [hset, hst], by rw [List.drop_set_of_lt (by omega)]; exact hEd2, (by repeat (first | assumption | exact hg_new | exact hg_at (by first | rfl | simp) rfl | exact hg_self (by first | assumption | omega | (simp only [List.length_set, List.length_append, List.length_cons, List.length_nil, List.length_map, List.length_replicate]; omega)) | refine hg_app _ ?_ | refine hg_ne ?_ (by first | assumption | omega) | refine mskR ?_ (by first | (simp [rho, -List.length_eq_zero_iff]; done) | (simp [rho, -List.length_eq_zero_iff]; omega)))), (by repeat (first | assumption | exact hg_new | exact hg_at (by first | rfl | simp) rfl | exact hg_self (by first | assumption | omega | (simp only [List.length_set, List.length_append, List.length_cons, List.length_nil, List.length_map, List.length_replicate]; omega)) | refine hg_app _ ?_ | refine hg_ne ?_ (by first | assumption | omega) | refine mskR ?_ (by first | (simp [rho, -List.length_eq_zero_iff]; done) | (simp [rho, -List.length_eq_zero_iff]; omega)))), rfl, rfl⟩, Wk.keep (by (repeat first | exact True.intro | refine And.intro ?_ ?_ | exact Or.inr (Or.inl rfl) | exact Or.inl rfl | (refine DLe.i rfl ?_; omega) | (refine DLe.i rfl ?_; simp; done)))⟩
    · obtain rfl : j = l.length := by omega
      rw [List.take_length] at hEt
      have hti : (E.take i).length = i := by rw [List.length_take]; omega
      repeat (any_goals (first | (apply w_any; (first | refine RT.nil ?_ | refine RT.mvA ?_ | refine RT.asA ?_ | refine RT.bnA ?_ | refine RT.clA ?_ | (apply w_sl; (first | refine RT.v (f_slLo0 (k := i) rfl rfl rfl (by omega) hc rfl hb2) ?_ | refine RT.v (f_slHiO (hi := i) rfl rfl rfl (by omega) rfl (by repeat (first | assumption | exact hg_new | exact hg_at (by first | rfl | simp) rfl | exact hg_self (by first | assumption | omega | (simp only [List.length_set, List.length_append, List.length_cons, List.length_nil, List.length_map, List.length_replicate]; omega)) | refine hg_app _ ?_ | refine hg_ne ?_ (by first | assumption | omega) | refine mskR ?_ (by first | (simp [rho, -List.length_eq_zero_iff]; done) | (simp [rho, -List.length_eq_zero_iff]; omega))))) ?_)) | refine RT.clearS (z := [wI 0, wI 0, wI 0, wI 0]) rfl rfl rfl rfl rfl hb2 (by rw [List.length_map]; omega) rfl ?_)) | (apply v_any; (first | refine VT.seq rfl ?_ | refine VT.reg rfl ?_ | refine VT.exit rfl ?_ | refine VT.ret rfl ?_ | refine VT.condN rfl rfl (by first | assumption | omega) ?_)) | (with_reducible refine d_kEr ?_; refine kEr rfl ?_)))
      refine ⟨E.take i, E.take i ++ List.replicate (l.length - i) ⟨0, 0, 0, 0⟩ ++ E.drop (i + (l.length - i)), hEt, by rw [hti]; rfl, ?_, ?_, ?_⟩
      · refine (hg_self hbl).trans (congrArg some (congrArg (Blk.live 4) ?_))
        rw [List.map_append, List.map_append, List.map_replicate, List.map_take, List.map_drop]
      · rw [hti, List.append_assoc, List.take_append_of_le_length (by rw [hti]; exact Nat.le_refl _), List.take_take, Nat.min_self]
      · rw [hti]; simp; omega
  · have hany : l.any (lateB day) = false := by
      rw [← Bool.not_eq_true]
      intro h
      have hlt : l.findIdx (lateB day) < l.length := List.findIdx_lt_length.2 (by simpa using h)
      refine hh ⟨l.findIdx (lateB day), hlt, ?_, List.findIdx_getElem⟩
      rw [List.any_eq_false]
      intro x hx
      obtain ⟨i, hi, rfl⟩ := List.mem_take_iff_getElem.1 hx
      have := List.not_of_lt_findIdx (p := lateB day) (xs := l) (i := i) (by omega)
      simpa using this
    rw [fidx_none (k := l.length) (by omega) (by rw [List.take_length]; exact hany)] at hF
    repeat (any_goals (first | (apply w_any; (first | refine RT.nil ?_ | refine RT.mvA ?_ | refine RT.asA ?_ | refine RT.v (f_eqlT rfl rfl rfl) ?_ | (refine d_call ?_; refine RT.callM rfl hF hs rfl ?_))) | (apply v_any; (first | refine VT.seq rfl ?_ | refine VT.reg rfl ?_ | refine VT.condT rfl rfl ?_ | refine VT.ret rfl ?_)) | with_reducible (refine kSr ?_) | (with_reducible refine d_kEr ?_; refine kEr rfl ?_)))
    have e1 : l.filter (fun x => !lateB day x) = l := by
      rw [List.filter_eq_self]
      intro x hx
      rw [List.any_eq_false] at hany
      simpa using hany x hx
    exact ⟨l, l, e1.symm, rfl, hb, List.take_length, Nat.le_refl _⟩
end Go.DL
