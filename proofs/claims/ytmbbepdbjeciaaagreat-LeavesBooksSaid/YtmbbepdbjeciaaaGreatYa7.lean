/- slices.Concat of lines. -/
import Derived.Test.YtmbbepdbjeciaaaGreatYa6
import Derived.Test.YtmbbepdbjeciaaaGreatYw5
set_option maxRecDepth 100000
set_option maxHeartbeats 16000000
namespace Go.DL
open Go.Proofs Go
/-- Zero elements are appended to nil. -/
theorem f_appZL {P : Program} {H : List Blk} {s n : Nat} {al : AL} {tx : TypeId} {x y : Operand} {te ti : TypeId} {ki : IntKind} {k sz by' : Nat} {z : List D} (hx : evA n al x = .nil) (hy : evA n al y = wI (k : Int))
    (he : elemT P tx = some (te, sz)) (hti : P.underlying ti = some (.int ki)) (hz : zeroD P te = some z) (hzl : z.length = sz) (h0 : 0 < sz) (hzc : z.all isCell = true) (hby : P.bytesOf te = by') (hl : k * by' ≤ 140737488355328) (hl2 : k ≤ 1000000) :
    Ap P H s n al (.call { callee := .builtin .append, args := #[x, y], argTypes := #[tx, ti] }) k none (.live sz (List.replicate k z)) := by
  refine f_app hx hy ?_ (by simp)
  have e1 : elemsD H .nil = some [] := rfl
  have e2 : addedD P H te ti (wI k) = some (List.replicate k z) := by
    simp only [addedD, hti, wI, show (0 : Int) ≤ (k : Int) by omega, if_true, hz, Option.map_some, Int.toNat_natCast]
  simp only [appendD, he, e1, e2]
  rw [if_pos]
  refine ⟨h0, by rw [hz]; exact congrArg some hzl, by simp, ?_, ?_, ?_, ?_⟩
  · rw [List.all_eq_true]; intro x hx; rw [List.eq_of_mem_replicate hx]; simpa using hzl
  · rw [List.all_eq_true]; intro x hx; rw [List.eq_of_mem_replicate hx]; exact hzc
  · rw [hby, List.length_replicate]; simpa using hl
  · rw [List.length_replicate]; simp; omega
/-- Room for lines. -/
theorem c_growL (k : Nat) (hk : k ≤ 1000000) : CallSp Tryz.prog 153 [.nil, wI k] [] fun d H' => ∃ es, d = .ms (if k = 0 then 1 else 0) 0 0 k ∧ H'[if k = 0 then 1 else 0]? = some (.live 4 es) ∧ H'.length = (if k = 0 then 1 else 0) + 1 := by
  refine CallSp.vt pok Tryz.f153 (n := 27) (rs := [.tmp 4]) rfl rfl rfl rfl rfl rfl rfl fun g => ?_
  by_cases h0 : k = 0
  · subst h0
    repeat (any_goals (first | (apply w_any; (first | refine RT.nil ?_ | refine RT.mvA ?_ | refine RT.asA ?_ | refine RT.bnA ?_ | (apply w_cl; (first | (refine d_call ?_; refine RT.capN rfl rfl ?_) | refine RT.clA ?_)))) | (apply v_any; (first | (refine VT.retP (i := 4) 4 rfl rfl ?_) | refine VT.seq rfl ?_ | refine VT.reg rfl ?_ | refine VT.condF rfl rfl ?_ | refine VT.skip rfl ?_)) | (with_reducible refine d_kEr ?_; refine kEr rfl ?_)))
    exact ⟨_, rfl, rfl, rfl⟩
  · rw [if_neg h0]
    have hb : ([.live 4 (List.replicate k [wI 0, wI 0, wI 0, wI 0])] : List Blk)[0]? = some (.live 4 (List.replicate k [wI 0, wI 0, wI 0, wI 0])) := rfl
    repeat (any_goals (first | (apply w_any; (first | refine RT.nil ?_ | refine RT.mvA ?_ | refine RT.asA ?_ | refine RT.bnA ?_ | (apply w_cl; (first | (refine d_call ?_; refine RT.capN rfl rfl ?_) | refine RT.ap (s := 0) rfl (f_appZL (k := k) (z := [wI 0, wI 0, wI 0, wI 0]) (by' := 32) rfl rfl rfl rfl rfl rfl (by decide) rfl rfl (by omega) (by omega)) rfl ?_ | refine RT.clA ?_)) | (apply w_sl; (first | refine RT.v (f_slNil0 rfl rfl rfl) ?_ | refine RT.v (f_slHiO (hi := 0) rfl rfl rfl (by omega) rfl hb) ?_)))) | (apply v_any; (first | refine VT.seq rfl ?_ | refine VT.reg rfl ?_ | refine VT.condF rfl rfl ?_ | refine VT.skip rfl ?_ | refine VT.ret rfl ?_ | refine VT.condY rfl rfl (by first | assumption | omega) ?_)) | (with_reducible refine d_kEr ?_; refine kEr rfl ?_)))
    exact ⟨_, rfl, rfl, rfl⟩
abbrev eLs (r : List Line) : List D := [.sl (r.map eLine)]
theorem c_concatL0 (d : List (List Line)) (hd : d.length ≤ 20) (h1 : 1 ≤ d.length) (hw : d.flatten.length ≤ 1000) : CallSp Tryz.prog 109 [.sl (d.map eLs)] [] fun x H => x = .ms ((if d.flatten.length = 0 then 1 else 0) + d.length) 0 d.flatten.length d.flatten.length ∧ H[(if d.flatten.length = 0 then 1 else 0) + d.length]? = some (.live 4 (d.flatten.map eLine)) := by
  refine CallSp.vt pok Tryz.f109 (n := 36) (rs := [.tmp 2]) rfl rfl rfl rfl rfl rfl rfl fun g => ?_
  have htl : ∀ k, ((d.take k).flatten).length ≤ d.flatten.length := fun k => by
    have : d.flatten = (d.take k).flatten ++ (d.drop k).flatten := by rw [← List.flatten_append, List.take_append_drop]
    rw [this, List.length_append]; omega
  have hstep : ∀ k (hk : k < d.length), (d.take (k + 1)).flatten = (d.take k).flatten ++ d[k] := fun k hk => by
    rw [List.take_succ_eq_append_getElem hk, List.flatten_append, List.flatten_cons, List.flatten_nil, List.append_nil]
  repeat (any_goals (first | (apply w_any; (first | refine RT.nil ?_ | refine RT.mvA ?_ | refine RT.asA ?_ | refine RT.clA ?_)) | (apply v_any; (first | refine VT.seq rfl ?_ | refine VT.reg rfl ?_ | refine VT.block rfl ?_))))
  refine VT.loop (fun j a H g' => ∃ k : Nat, j = d.length - k ∧ k ≤ d.length ∧ a = [(0, .sl (d.map eLs)), (3, wI (((d.take k).flatten).length : Nat)), (9, .sl (d.map eLs)), (10, wI d.length), (11, wI k)] ∧ H = [] ∧ g' = g) rfl
    ⟨_, _, _, ⟨0, rfl, Nat.zero_le _, rfl, rfl, rfl⟩, fgA⟩ ?_
  rintro j a H g' ⟨k, rfl, hk, rfl, rfl, rfl⟩
  have hk1 := htl k
  by_cases hlt : k < d.length
  · have hk2 := htl (k + 1)
    have hst := hstep k hlt
    have hst2 := congrArg List.length hst
    rw [List.length_append] at hst2
    repeat (any_goals (first | (apply w_any; (first | refine RT.nil ?_ | refine RT.mvA ?_ | refine RT.asA ?_ | refine RT.ldA ?_ | refine RT.bnA ?_ | refine RT.clA ?_ | refine RT.ixA ?_)) | (apply v_any; (first | refine VT.seq rfl ?_ | refine VT.reg rfl ?_ | refine VT.condF rfl rfl ?_ | refine VT.block rfl ?_ | refine VT.skip rfl ?_ | refine VT.condY rfl rfl (by first | assumption | omega) ?_)) | with_reducible (refine kLn ?_)))
    exact ⟨d.length - (k + 1), by omega, _, _, ⟨k + 1, rfl, hlt, by rw [hst2], rfl, rfl⟩, fgA⟩
  · obtain rfl : k = d.length := by omega
    rw [List.take_length] at hk1 ⊢
    repeat (any_goals (first | (apply w_any; (first | refine RT.nil ?_ | refine RT.mvA ?_ | refine RT.bnA ?_ | (refine d_call ?_; refine RT.callG rfl ((c_growL d.flatten.length (by omega)).mono ?_)))) | (apply v_any; (first | refine VT.seq rfl ?_ | refine VT.reg rfl ?_ | refine VT.exit rfl ?_ | refine VT.condN rfl rfl (by first | assumption | omega) ?_))))
    rintro x Hg ⟨es0, rfl, hes0, hHl⟩
    generalize hb0 : (if d.flatten.length = 0 then 1 else 0) = b0 at hes0 hHl ⊢
    change RT _ _ _ _ ((24, D.ms b0 0 0 d.flatten.length) :: _) _ _ _
    repeat (any_goals (first | (apply w_any; (first | refine RT.nil ?_ | refine RT.mvA ?_ | refine RT.asA ?_ | refine RT.clA ?_)) | (apply v_any; (first | refine VT.seq rfl ?_ | refine VT.reg rfl ?_ | refine VT.block rfl ?_))))
    refine VT.loop (fun j a H g2 => ∃ (k m c : Nat) (es : List (List D)), j = d.length - k ∧ k ≤ d.length ∧ H[b0 + k]? = some (.live 4 es) ∧ es.take m = ((d.take k).flatten).map eLine ∧ m ≤ es.length ∧ m = ((d.take k).flatten).length ∧ H.length = b0 + k + 1 ∧ (0 < k → es = ((d.take k).flatten).map eLine ∧ c = m) ∧ a = [(6, .ms (b0 + k) 0 m c), (25, .sl (d.map eLs)), (26, wI d.length), (27, wI k)] ∧ g2 = g') rfl
      ⟨_, _, _, ⟨0, 0, d.flatten.length, es0, rfl, Nat.zero_le _, hes0, rfl, Nat.zero_le _, rfl, hHl, fun h => absurd h (Nat.lt_irrefl 0), rfl, rfl⟩, Wk.keep (by (repeat first | exact True.intro | refine And.intro ?_ ?_ | exact Or.inr (Or.inl rfl) | exact Or.inl rfl | (refine DLe.i rfl ?_; omega) | (refine DLe.i rfl ?_; simp; done)))⟩ ?_
    rintro j a H g2 ⟨k, m, c, es, rfl, hk, hb, hes, hle, hm, hHl2, he, rfl, rfl⟩
    have hk1 := htl k
    by_cases hlt : k < d.length
    · have hk2 := htl (k + 1)
      have hst := hstep k hlt
      have hst2 := congrArg List.length hst
      rw [List.length_append] at hst2
      repeat (any_goals (first | (apply w_any; (first | refine RT.nil ?_ | refine RT.mvA ?_ | refine RT.asA ?_ | refine RT.ldA ?_ | refine RT.bnA ?_ | refine RT.ap (s := H.length) rfl (f_appL (f := eLine) (o := (d.take k).flatten) (v := d[k]) (mm := ((d.take k).flatten ++ d[k]).length) (by' := 32) rfl rfl hb hes hle (helmL _ _) hm (by simp) rfl (by decide) rfl rfl (fun _ => ⟨rfl, rfl⟩) (by omega) (by omega)) rfl ?_ | refine RT.ixA ?_)) | (apply v_any; (first | refine VT.seq rfl ?_ | refine VT.reg rfl ?_ | refine VT.block rfl ?_ | refine VT.skip rfl ?_ | refine VT.condY rfl rfl (by first | assumption | omega) ?_)) | with_reducible (refine kLn ?_)))
      exact ⟨d.length - (k + 1), by omega, _, _, ⟨k + 1, ((d.take k).flatten ++ d[k]).length, ((d.take k).flatten ++ d[k]).length, _, rfl, hlt, (by
        show (H.set (b0 + k) .dead ++ _)[b0 + (k + 1)]? = _
        rw [show b0 + (k + 1) = H.length + 0 by omega]
        exact hg_at (t := 0) (by simp) rfl), by rw [List.take_of_length_le (by rw [List.length_map]; exact Nat.le_refl _), hst], by rw [List.length_map]; exact Nat.le_refl _, by rw [hst], by show (H.set (b0 + k) .dead ++ _).length = _; rw [List.length_append, List.length_set, hHl2]; rfl, fun _ => ⟨by rw [hst], rfl⟩, by rw [show b0 + (k + 1) = H.length by omega], rfl⟩, Wk.keep (by (repeat first | exact True.intro | refine And.intro ?_ ?_ | exact Or.inr (Or.inl rfl) | exact Or.inl rfl | (refine DLe.i rfl ?_; omega) | (refine DLe.i rfl ?_; simp; done)))⟩
    · obtain rfl : k = d.length := by omega
      repeat (any_goals (first | (apply w_any; (first | refine RT.nil ?_ | refine RT.mvA ?_ | refine RT.asA ?_ | refine RT.bnA ?_)) | (apply v_any; (first | refine VT.seq rfl ?_ | refine VT.reg rfl ?_ | refine VT.exit rfl ?_ | refine VT.ret rfl ?_ | refine VT.condN rfl rfl (by first | assumption | omega) ?_)) | (with_reducible refine d_kEr ?_; refine kEr rfl ?_)))
      obtain ⟨he, hcm⟩ := he (by omega)
      rw [List.take_length] at he hm
      rw [he] at hb
      rw [hcm, hm]
      exact ⟨rfl, hb⟩
/-- slices.Concat of lines, over any own blocks. -/
theorem c_concatL {H : List Blk} {x : D} (d : List (List Line)) (hx : snap (fun b => H[b]?) 5 x = .sl (d.map eLs)) (hd : d.length ≤ 20) (h1 : 1 ≤ d.length) (hw : d.flatten.length ≤ 1000) :
    CallSp Tryz.prog 109 [x] H fun x H' => x = .ms (H.length + 1) 0 d.flatten.length d.flatten.length ∧ H' = H ++ [.dead, .live 4 (d.flatten.map eLine)] :=
  CallSp.frame (k := (if d.flatten.length = 0 then 1 else 0) + d.length) (by rw [List.map_cons, List.map_nil, hx]; exact c_concatL0 d hd h1 hw) fun e he d hd => by
    obtain ⟨z, _, rfl⟩ := List.mem_map.1 he
    simp only [eLine, List.mem_cons, List.not_mem_nil, or_false] at hd
    rcases hd with rfl | rfl | rfl | rfl <;> rfl
end Go.DL
