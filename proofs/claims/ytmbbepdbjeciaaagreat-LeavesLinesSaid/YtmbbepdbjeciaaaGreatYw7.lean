/- Reading: what both programs answer. -/
import Derived.Test.YtmbbepdbjeciaaaGreatYw6
import Derived.Test.YtmbbepdbjeciaaaGreatYp1
import Derived.Test.YtmbbepdbjeciaaaGreatYb
set_option maxRecDepth 100000
set_option maxHeartbeats 16000000
namespace Go.DL
open Go.Proofs Go
/-- The lines that some words tell, behind the first word. -/
def linesOf (w : List Int) (n : Nat) : List Line := (List.range n).map fun i => lineOfS ((w.drop (1 + i * 7)).take 7)
theorem linesOf_succ (w : List Int) (n : Nat) : linesOf w (n + 1) = linesOf w n ++ [lineOfS ((w.drop (1 + n * 7)).take 7)] := by simp [linesOf, List.range_succ]
theorem linesOf_len (w : List Int) (n : Nat) : (linesOf w n).length = n := by simp [linesOf]
def ReadS (s : Shape) (d : List (List Int)) : List Line × Int :=
  if CheckS s = 0 then (if DataS s d = true then
    (if 60 < d.flatten.getD 0 0 ∨ (d.flatten.length : Int) < 1 + 7 * d.flatten.getD 0 0 then ([], 7)
     else if (WriteS s (linesOf d.flatten (d.flatten.getD 0 0).toNat)) = (d, 0) then (linesOf d.flatten (d.flatten.getD 0 0).toNat, 0) else ([], 7)) else ([], 1)) else ([], 1)
theorem getD_dt (w : List Int) (o j : Nat) (hj : j < 7) : ((w.drop o).take 7).getD j 0 = w.getD (o + j) 0 := by
  simp only [List.getD_eq_getElem?_getD, List.getElem?_take, if_pos hj, List.getElem?_drop]
theorem lineOf_dt (w : List Int) (o : Nat) : lineOfS ((w.drop o).take 7) = ⟨(w.getD (o + 0) 0 * 65521 + w.getD (o + 1) 0) * 65521 + w.getD (o + 2) 0, w.getD (o + 3) 0, w.getD (o + 4) 0, w.getD (o + 5) 0 * 65521 + w.getD (o + 6) 0⟩ := by
  unfold lineOfS
  rw [getD_dt w o 0 (by decide), getD_dt w o 1 (by decide), getD_dt w o 2 (by decide), getD_dt w o 3 (by decide), getD_dt w o 4 (by decide), getD_dt w o 5 (by decide), getD_dt w o 6 (by decide)]
theorem WriteS_small (s : Shape) (l : List Line) : (WriteS s l).1.length ≤ 1000 ∧ ∀ x, x ∈ (WriteS s l).1 → x.length ≤ 1000 := by
  have h0 : ((([] : List (List Int)), (1 : Int)).1.length ≤ 1000 ∧ ∀ x, x ∈ (([] : List (List Int)), (1 : Int)).1 → x.length ≤ 1000) := ⟨by decide, fun x h => by cases h⟩
  unfold WriteS
  rcases CheckS_cases s with ⟨e, h⟩ | ⟨e, h⟩
  · rw [if_pos e]
    split
    · unfold writeS
      by_cases hf : (wordsS l).length ≤ s.Data.toNat * s.Width.toNat
      · rw [if_pos hf]
        obtain ⟨⟨h1, h2⟩, _, h4, h5⟩ := h
        refine ⟨by simp [rowsOf]; omega, fun x hx => ?_⟩
        obtain ⟨k, _, rfl⟩ := List.mem_map.1 hx
        rw [List.length_drop, List.length_take, Nat.succ_mul]; omega
      · rw [if_neg hf]; exact h0
    · exact h0
  · rw [if_neg (by omega)]; exact h0
theorem snapRLn {lk : Nat → Option Blk} {b m cap k : Nat} {o : List Line} (h : lk b = some (.live 4 (o.map eLine))) (hm : m = o.length) : snapR lk (k + 1) (.ms b 0 m cap) = .fl (o.map eLine) := by
  subst hm
  simp only [snapR, h, Nat.zero_add, List.length_map, Nat.le_refl, if_true, List.drop_zero]
  rw [List.take_of_length_le (by simp), if_pos (List.all_eq_true.2 fun e he => by obtain ⟨x, _, rfl⟩ := List.mem_map.1 he; cases k <;> rfl), List.map_map]
  exact congrArg D.fl (List.map_congr_left fun x _ => by cases k <;> rfl)
theorem m_RRead (s : Shape) (d : List (List Int)) (hl : d.length ≤ 4611686018427387904) (hd : ∀ x, x ∈ d → x.length ≤ 4611686018427387904) : Maps Tryz.prog 37 [dSh s, .sl (d.map eRow)] (.agg [.fl ((ReadS s d).1.map eLine), wI (ReadS s d).2]) := by
  refine Maps.vt pok Tryz.f37 (n := 109) (rs := [.cell 4 65]) rfl rfl rfl rfl rfl rfl fun g => ?_
  have hk := m_RCheck s
  have ha := m_RData s d hl hd
  unfold ReadS
  rcases CheckS_cases s with ⟨e, h⟩ | ⟨e, h⟩
  · rw [e] at hk ⊢
    rw [if_pos rfl]
    cases qd : DataS s d with
    | true =>
      rw [qd] at ha
      rw [if_pos rfl]
      have hdw := dataW_of h qd
      have hdl : (d.length : Int) = s.Data := by
        unfold DataS at qd
        rw [Bool.and_eq_true, decide_eq_true_eq] at qd
        exact qd.1
      have hD1 : 1 ≤ d.length := by have := h.1.1; omega
      obtain ⟨W, hW⟩ : ∃ W : Nat, s.Width.toNat = W := ⟨_, rfl⟩
      rw [hW] at hdw
      have hW1 : 1 ≤ W := by have := h.2.2.1; omega
      have hW2 : W ≤ 32 := by have := h.2.2.2; omega
      have hfl : ∀ k, k ≤ d.length → ((d.take k).flatten).length = k * W := fun k hk => by
        rw [List.length_flatten, show (d.take k).map List.length = List.replicate k W from by
          refine List.eq_replicate_iff.2 ⟨by simp; omega, fun x hx => ?_⟩
          obtain ⟨r, hr, rfl⟩ := List.mem_map.1 hx
          exact (hdw.2 r (List.mem_of_mem_take hr)).1]
        simp
      repeat (any_goals (first | (apply w_any; (first | refine RT.nil ?_ | refine RT.mvA ?_ | refine RT.asA ?_ | refine RT.ldA ?_ | refine RT.bnA ?_ | (apply w_cl; (first | refine RT.callM rfl (hk) rfl rfl ?_ | refine RT.callM rfl (ha) rfl rfl ?_)) | refine RT.unA ?_ | refine RT.nwA ?_ | refine RT.nwA ?_)) | (apply v_any; (first | refine VT.seq rfl ?_ | refine VT.reg rfl ?_ | refine VT.condF rfl rfl ?_ | refine VT.block rfl ?_ | refine VT.skip rfl ?_))))
      refine VT.phantom (i := 6) (s := 2) 1 rfl rfl rfl ?_
      refine VT.loop (fun j a H g' => ∃ (k b m : Nat), j = d.length - k ∧ k ≤ d.length ∧ H[0]? = some (.live 3 [eShape s]) ∧ H[1]? = some (.live 2 [[.nil, wI 0]]) ∧ H[b]? = some (.live 1 (((d.take k).flatten).map eI)) ∧ 2 ≤ b ∧ m = ((d.take k).flatten).length ∧ a = [(1, .sl (d.map eRow)), (2, .mp 0 0 0), (4, .mp 1 0 0), (6, .ms b 0 m m), (7, wI k)] ∧ g' = g) rfl
        ⟨_, _, _, ⟨0, 2, 0, rfl, Nat.zero_le _, rfl, rfl, rfl, Nat.le_refl _, rfl, rfl, rfl⟩, Wk.keep (by (repeat first | exact True.intro | refine And.intro ?_ ?_ | exact Or.inr (Or.inl rfl) | exact Or.inl rfl | (refine DLe.i rfl ?_; omega) | (refine DLe.i rfl ?_; simp; done)))⟩ ?_
      rintro j a H g' ⟨k, b, m, rfl, hkl, hb0, hb1, hb, hb2, hm, rfl, rfl⟩
      have hbl := hg_lt hb
      have hlen := hfl k hkl
      have hkw : k * W ≤ 640 := Nat.mul_le_mul (show k ≤ 20 by have := hdw.1; omega) hW2
      by_cases hlt : k < d.length
      · have hr := (hdw.2 d[k] (List.getElem_mem hlt)).1
        have hf2 : (d.take (k + 1)).flatten = (d.take k).flatten ++ d[k] := by rw [List.take_succ_eq_append_getElem hlt, List.flatten_append, List.flatten_cons, List.flatten_nil, List.append_nil]
        repeat (any_goals (first | (apply w_any; (first | refine RT.nil ?_ | refine RT.mvA ?_ | refine RT.asA ?_ | refine RT.ldA ?_ | refine RT.bnA ?_ | (apply w_cl; (first | refine RT.ap (s := H.length) rfl (f_appL (f := eI) (o := (d.take k).flatten) (v := d[k]) (mm := ((d.take k).flatten ++ d[k]).length) (by' := 8) rfl rfl hb (by rw [List.take_of_length_le (by rw [List.length_map, hm]; exact Nat.le_refl _)]) (by rw [List.length_map, hm]; exact Nat.le_refl _) (elems_sl _ _) hm (by simp) rfl (by decide) rfl rfl (fun _ => ⟨rfl, rfl⟩) (by omega) (by omega)) rfl ?_ | refine RT.clA ?_)) | refine RT.ixA ?_)) | (apply v_any; (first | refine VT.seq rfl ?_ | refine VT.reg rfl ?_ | refine VT.block rfl ?_ | refine VT.skip rfl ?_ | refine VT.condY rfl rfl (by first | assumption | omega) ?_)) | with_reducible (refine kLn ?_)))
        exact ⟨d.length - (k + 1), by omega, _, _, ⟨k + 1, H.length, ((d.take k).flatten ++ d[k]).length, rfl, hlt, hg_app _ (hg_ne hb0 (by omega)), hg_app _ (hg_ne hb1 (by omega)), (by
          show (H.set b .dead ++ _)[H.length]? = _
          rw [hf2]; exact hg_at (t := 0) (by simp) rfl), by omega, by rw [hf2], rfl, rfl⟩, Wk.keep (by (repeat first | exact True.intro | refine And.intro ?_ ?_ | exact Or.inr (Or.inl rfl) | exact Or.inl rfl | (refine DLe.i rfl ?_; omega) | (refine DLe.i rfl ?_; simp; done)))⟩
      · obtain rfl : k = d.length := by omega
        rw [List.take_length] at hb hm hlen
        have hwW : ∀ j, 0 ≤ d.flatten.getD j 0 ∧ d.flatten.getD j 0 ≤ 65520 := fun j => by
          rw [List.getD_eq_getElem?_getD]
          cases hj : d.flatten[j]? with
          | none => exact ⟨Int.le_refl _, by decide⟩
          | some x =>
            obtain ⟨r, hr, hx⟩ := List.mem_flatten.1 (List.mem_of_getElem? hj)
            exact (hdw.2 r hr).2 x hx
        have hk1 : 1 ≤ d.length * W := Nat.mul_le_mul hD1 hW1
        generalize hw : d.flatten = w at hb hm hlen hwW ⊢
        obtain ⟨n, hn⟩ : ∃ n : Nat, w.getD 0 0 = n := Int.eq_ofNat_of_zero_le (hwW 0).1
        rw [hn, Int.toNat_natCast]
        have hn2 := (hwW 0).2
        rw [hn] at hn2
        have hw0 : w[0]? = some (n : Int) := by
          rw [List.getElem?_eq_getElem (by omega)]
          rw [← hn, List.getD_eq_getElem?_getD, List.getElem?_eq_getElem (by omega)]; rfl
        have hI := fun (i : Nat) (hi : i < w.length) => hwW i
        by_cases h60 : 60 < (n : Int)
        · rw [if_pos (.inl h60)]
          repeat (any_goals (first | (apply w_any; (first | refine RT.nil ?_ | refine RT.gn rfl rfl ?_ | refine RT.mvA ?_ | refine RT.asA ?_ | refine RT.v (f_ldWE rfl hb rfl hw0) ?_ | (apply w_bn; (first | refine RT.v (f_gtrT rfl rfl (by omega)) ?_ | refine RT.bnA ?_)) | refine RT.clA ?_ | refine RT.pkA ?_ | refine RT.v (f_ixO0 (k := 0) rfl rfl rfl hb rfl (by omega)) ?_ | refine RT.wr (f_stA rfl hb1 rfl rfl rfl rfl rfl (by decide) rfl) rfl ?_ | refine RT.v (f_build (d := .agg [.nil, wI 7]) rfl) ?_)) | (apply v_any; (first | refine VT.seq rfl ?_ | refine VT.reg rfl ?_ | refine VT.condT rfl rfl ?_ | refine VT.exit rfl ?_ | refine VT.ret rfl ?_ | refine VT.condN rfl rfl (by first | assumption | omega) ?_)) | with_reducible (refine kSr ?_)))
          exact kEr (resA_cell1 (sz := 2) (e := [.nil, wI 7]) rfl (List.getElem?_set_self (hg_lt hb1)) rfl rfl rfl) rfl
        · by_cases hbig : (w.length : Int) < 1 + 7 * (n : Int)
          · rw [if_pos (.inr hbig)]
            repeat (any_goals (first | (apply w_any; (first | refine RT.nil ?_ | refine RT.gy rfl ?_ | refine RT.mvA ?_ | refine RT.asA ?_ | refine RT.v (f_ldWE rfl hb rfl hw0) ?_ | (apply w_bn; (first | refine RT.v (f_gtrF rfl rfl (by omega)) ?_ | refine RT.v (f_gtrT rfl rfl (by omega)) ?_ | refine RT.bnA ?_)) | refine RT.clA ?_ | refine RT.pkA ?_ | refine RT.v (f_ixO0 (k := 0) rfl rfl rfl hb rfl (by omega)) ?_ | refine RT.wr (f_stA rfl hb1 rfl rfl rfl rfl rfl (by decide) rfl) rfl ?_ | refine RT.v (f_build (d := .agg [.nil, wI 7]) rfl) ?_)) | (apply v_any; (first | refine VT.seq rfl ?_ | refine VT.reg rfl ?_ | refine VT.condT rfl rfl ?_ | refine VT.exit rfl ?_ | refine VT.ret rfl ?_ | refine VT.condN rfl rfl (by first | assumption | omega) ?_)) | with_reducible (refine kSr ?_)))
            exact kEr (resA_cell1 (sz := 2) (e := [.nil, wI 7]) rfl (List.getElem?_set_self (hg_lt hb1)) rfl rfl rfl) rfl
          · rw [if_neg (by omega)]
            repeat (any_goals (first | (apply w_any; (first | refine RT.nil ?_ | refine RT.gy rfl ?_ | refine RT.mvA ?_ | refine RT.asA ?_ | refine RT.v (f_ldWE rfl hb rfl hw0) ?_ | (apply w_bn; (first | refine RT.v (f_gtrF rfl rfl (by omega)) ?_ | refine RT.bnA ?_)) | refine RT.clA ?_ | refine RT.pkA ?_ | refine RT.v (f_ixO0 (k := 0) rfl rfl rfl hb rfl (by omega)) ?_)) | (apply v_any; (first | refine VT.seq rfl ?_ | refine VT.reg rfl ?_ | refine VT.condF rfl rfl ?_ | refine VT.block rfl ?_ | refine VT.skip rfl ?_ | refine VT.exit rfl ?_ | refine VT.condN rfl rfl (by first | assumption | omega) ?_))))
            subst hm
            refine VT.phantom (i := 9) (s := H.length) 4 rfl rfl rfl ?_
            refine VT.loop (fun jj a H2 g2 => ∃ (i q m : Nat), jj = n - i ∧ i ≤ n ∧ H2[0]? = some (.live 3 [eShape s]) ∧ H2[1]? = some (.live 2 [[.nil, wI 0]]) ∧ H2[b]? = some (.live 1 (w.map eI)) ∧ H2[q]? = some (.live 4 ((linesOf w i).map eLine)) ∧ 2 ≤ q ∧ q ≠ b ∧ m = i ∧ a = [(1, .sl (d.map eRow)), (2, .mp 0 0 0), (4, .mp 1 0 0), (6, .ms b 0 w.length w.length), (8, wI n), (9, .ms q 0 m m), (10, wI i)] ∧ g2 = g') rfl
              ⟨_, _, _, ⟨0, H.length, 0, rfl, Nat.zero_le _, hg_app _ hb0, hg_app _ hb1, hg_app _ hb, hg_at (t := 0) rfl rfl, by omega, by omega, rfl, rfl, rfl⟩, Wk.keep (by (repeat first | exact True.intro | refine And.intro ?_ ?_ | exact Or.inr (Or.inl rfl) | exact Or.inl rfl | (refine DLe.i rfl ?_; omega) | (refine DLe.i rfl ?_; simp; done)))⟩ ?_
            clear hb0 hb1 hb hbl
            rintro jj a H g2 ⟨i, q, m, rfl, hi, hb0, hb1, hb, hq, hq2, hqb, hmi, rfl, rfl⟩
            have hbl := hg_lt hb
            have hql := hg_lt hq
            have hll := linesOf_len w i
            by_cases hin : i < n
            · have b0 := hwW (1 + i * 7 + 0)
              have b1 := hwW (1 + i * 7 + 1)
              have b2 := hwW (1 + i * 7 + 2)
              have b3 := hwW (1 + i * 7 + 3)
              have b4 := hwW (1 + i * 7 + 4)
              have b5 := hwW (1 + i * 7 + 5)
              have b6 := hwW (1 + i * 7 + 6)
              have hx := lineOf_dt w (1 + i * 7)
              generalize hxl : lineOfS ((w.drop (1 + i * 7)).take 7) = x at hx
              repeat (any_goals (first | (apply w_any; (first | refine RT.nil ?_ | refine RT.mvA ?_ | refine RT.asA ?_ | refine RT.bnA ?_ | refine RT.v (f_slLo0 (k := 1 + i * 7) rfl rfl (by omega) (by omega) (Nat.le_refl _) rfl hb) ?_)) | (apply v_any; (first | refine VT.seq rfl ?_ | refine VT.reg rfl ?_ | refine VT.block rfl ?_ | refine VT.skip rfl ?_ | refine VT.drawS [q] 1 [none, none, none, none, none, none, none, none, none, none, none, none, none, none, none, none, none, none, none, none, none, none, none, none, none, none, none, none, none, none, some 0, none] [(2, [1, 2], none), (2, [1, 2], none), (2, [1, 2], none), (2, [1, 2], none), (2, [1, 2], none), (2, [1, 2], none), (2, [1, 2], none), (2, [1, 2], none), (2, [1, 2], none), (2, [1, 2], none), (2, [1, 2], none), (2, [1, 2], none), (2, [1, 2], none), (2, [1, 2], none), (2, [1, 2], none), (2, [1, 2], none), (2, [1, 2], none), (2, [1, 2], none), (2, [1, 2], none), (2, [1, 2], none), (2, [1, 2], none), (2, [1, 2], none), (2, [1, 2], none), (2, [1, 2], none), (2, [1, 2], none), (2, [1, 2], none), (2, [1, 2], none), (2, [1, 2], none), (2, [1, 2], none), (0, [1, 2], none), (1, [2], some 0), (2, [], none)] 3 rfl (by first | (simp; done) | (simp; omega)) (by first | (simp; done) | (simp; omega)) mixedOk rfl (by decide +kernel) (by decide +kernel) (by decide +kernel) rfl (H1 := H ++ [.free, .free, .free]) rfl ?_ | refine VT.condY rfl rfl (by first | assumption | omega) ?_)) | (apply s_any; (first | refine ST.done (dropLn (H.set q .dead) [_, _] .free) ?_ | refine ST.mvA ?_ | refine ST.asA ?_ | refine ST.v (f_ldWD rfl (by repeat (first | assumption | exact hg_at (by first | rfl | simp) rfl | exact hg_self (by first | assumption | omega | (simp only [List.length_set, List.length_append, List.length_cons, List.length_nil, List.length_map, List.length_replicate]; omega)) | refine hg_app _ ?_ | refine hg_ne ?_ (by first | assumption | omega) | refine mskR ?_ (by first | (simp [rho, -List.length_eq_zero_iff]; done) | (simp [rho, -List.length_eq_zero_iff]; omega)))) (by omega) rfl) ?_ | refine ST.bnA ?_ | refine ST.ap (q := 0) (b := q) rfl rfl (s' := H.length + 1) rfl (f_appT (f := eLine) (o := linesOf w i) (v := [x]) (mm := i + 1) (by' := 32) rfl rfl (by repeat (first | assumption | exact hg_at (by first | rfl | simp) rfl | exact hg_self (by first | assumption | omega | (simp only [List.length_set, List.length_append, List.length_cons, List.length_nil, List.length_map, List.length_replicate]; omega)) | refine hg_app _ ?_ | refine hg_ne ?_ (by first | assumption | omega) | refine mskR ?_ (by first | (simp [rho, -List.length_eq_zero_iff]; done) | (simp [rho, -List.length_eq_zero_iff]; omega)))) (List.take_of_length_le (by rw [List.length_map]; omega)) (by rw [List.length_map]; omega) (by repeat (first | assumption | exact hg_at (by first | rfl | simp) rfl | exact hg_self (by first | assumption | omega | (simp only [List.length_set, List.length_append, List.length_cons, List.length_nil, List.length_map, List.length_replicate]; omega)) | refine hg_app _ ?_ | refine hg_ne ?_ (by first | assumption | omega) | refine mskR ?_ (by first | (simp [rho, -List.length_eq_zero_iff]; done) | (simp [rho, -List.length_eq_zero_iff]; omega)))) (by omega) rfl (by simp [hll]) rfl (by decide) rfl rfl (fun _ => ⟨rfl, rfl⟩) (by simp; omega) (by simp; omega)) (killLen (T' := [.live 4 [eLine x], .live 4 ((linesOf w i ++ [x]).map eLine), .free]) hql rfl rfl) ?_ | (apply s_ix; (first | refine ST.v (f_ixO (k := 0) rfl rfl rfl (by repeat (first | assumption | exact hg_at (by first | rfl | simp) rfl | exact hg_self (by first | assumption | omega | (simp only [List.length_set, List.length_append, List.length_cons, List.length_nil, List.length_map, List.length_replicate]; omega)) | refine hg_app _ ?_ | refine hg_ne ?_ (by first | assumption | omega) | refine mskR ?_ (by first | (simp [rho, -List.length_eq_zero_iff]; done) | (simp [rho, -List.length_eq_zero_iff]; omega)))) rfl (by omega)) ?_ | refine ST.v (f_ixO (k := 1) rfl rfl rfl (by repeat (first | assumption | exact hg_at (by first | rfl | simp) rfl | exact hg_self (by first | assumption | omega | (simp only [List.length_set, List.length_append, List.length_cons, List.length_nil, List.length_map, List.length_replicate]; omega)) | refine hg_app _ ?_ | refine hg_ne ?_ (by first | assumption | omega) | refine mskR ?_ (by first | (simp [rho, -List.length_eq_zero_iff]; done) | (simp [rho, -List.length_eq_zero_iff]; omega)))) rfl (by omega)) ?_ | refine ST.v (f_ixO (k := 2) rfl rfl rfl (by repeat (first | assumption | exact hg_at (by first | rfl | simp) rfl | exact hg_self (by first | assumption | omega | (simp only [List.length_set, List.length_append, List.length_cons, List.length_nil, List.length_map, List.length_replicate]; omega)) | refine hg_app _ ?_ | refine hg_ne ?_ (by first | assumption | omega) | refine mskR ?_ (by first | (simp [rho, -List.length_eq_zero_iff]; done) | (simp [rho, -List.length_eq_zero_iff]; omega)))) rfl (by omega)) ?_ | refine ST.v (f_ixO (k := 3) rfl rfl rfl (by repeat (first | assumption | exact hg_at (by first | rfl | simp) rfl | exact hg_self (by first | assumption | omega | (simp only [List.length_set, List.length_append, List.length_cons, List.length_nil, List.length_map, List.length_replicate]; omega)) | refine hg_app _ ?_ | refine hg_ne ?_ (by first | assumption | omega) | refine mskR ?_ (by first | (simp [rho, -List.length_eq_zero_iff]; done) | (simp [rho, -List.length_eq_zero_iff]; omega)))) rfl (by omega)) ?_ | refine ST.v (f_ixO (k := 4) rfl rfl rfl (by repeat (first | assumption | exact hg_at (by first | rfl | simp) rfl | exact hg_self (by first | assumption | omega | (simp only [List.length_set, List.length_append, List.length_cons, List.length_nil, List.length_map, List.length_replicate]; omega)) | refine hg_app _ ?_ | refine hg_ne ?_ (by first | assumption | omega) | refine mskR ?_ (by first | (simp [rho, -List.length_eq_zero_iff]; done) | (simp [rho, -List.length_eq_zero_iff]; omega)))) rfl (by omega)) ?_ | refine ST.v (f_ixO (k := 5) rfl rfl rfl (by repeat (first | assumption | exact hg_at (by first | rfl | simp) rfl | exact hg_self (by first | assumption | omega | (simp only [List.length_set, List.length_append, List.length_cons, List.length_nil, List.length_map, List.length_replicate]; omega)) | refine hg_app _ ?_ | refine hg_ne ?_ (by first | assumption | omega) | refine mskR ?_ (by first | (simp [rho, -List.length_eq_zero_iff]; done) | (simp [rho, -List.length_eq_zero_iff]; omega)))) rfl (by omega)) ?_ | refine ST.v (f_ixO (k := 6) rfl rfl rfl (by repeat (first | assumption | exact hg_at (by first | rfl | simp) rfl | exact hg_self (by first | assumption | omega | (simp only [List.length_set, List.length_append, List.length_cons, List.length_nil, List.length_map, List.length_replicate]; omega)) | refine hg_app _ ?_ | refine hg_ne ?_ (by first | assumption | omega) | refine mskR ?_ (by first | (simp [rho, -List.length_eq_zero_iff]; done) | (simp [rho, -List.length_eq_zero_iff]; omega)))) rfl (by omega)) ?_)) | refine ST.new rfl (s' := H.length + 0) rfl (f_bslA1 rfl rfl rfl rfl rfl rfl) (setLen (i := 0) (T' := [.live 4 [eLine x], .free, .free]) rfl rfl) ?_ | refine ST.v (f_build (d := .agg (eLine x)) (by rw [hx]; rfl)) ?_)) | with_reducible (refine kLn ?_)))
              exact ⟨n - (i + 1), by omega, _, _, ⟨i + 1, H.length + 1, i + 1, rfl, hin, hg_app _ (hg_ne hb0 (by omega)), hg_app _ (hg_ne hb1 (by omega)), hg_app _ (hg_ne hb (by omega)), (by rw [linesOf_succ, hxl]; exact hg_at (t := 1) (by simp) rfl), by omega, by omega, rfl, rfl, rfl⟩, Wk.keep (by (repeat first | exact True.intro | refine And.intro ?_ ?_ | exact Or.inr (Or.inl rfl) | exact Or.inl rfl | (refine DLe.i rfl ?_; omega) | (refine DLe.i rfl ?_; simp; done)))⟩
            · obtain rfl : i = n := by omega
              subst hmi
              have hrw := m_RWrite s (linesOf w m) (by omega)
              obtain ⟨hs1, hs2⟩ := WriteS_small s (linesOf w m)
              have hsn : ([.agg (eShape s), .ms q 0 m m] : List D).map (snap (fun b => H[b]?) 5) = [dSh s, .sl ((linesOf w m).map eLine)] := by
                have e1 : snap (fun b => H[b]?) 5 (.ms q 0 m m) = .sl ((linesOf w m).map eLine) := snapLn (k := 4) hq hll.symm
                rw [List.map_cons, List.map_cons, List.map_nil, e1]; rfl
              generalize WriteS s (linesOf w m) = R at hrw hs1 hs2 ⊢
              obtain ⟨R1, R2⟩ := R
              dsimp only at hrw hs1 hs2
              have hsm := m_sameRowsG R1 d (by omega) hl (fun x hx => by have := hs2 x hx; omega) hd
              have hnew : (H ++ [.live 2 [[.nil, wI 0]]])[H.length]? = some (.live 2 [[.nil, wI 0]]) := hg_at (t := 0) rfl rfl
              have hne2 : (H ++ [.live 2 [[.fl (R1.map eRow), wI R2]]])[H.length]? = some (.live 2 [[.fl (R1.map eRow), wI R2]]) := hg_at (t := 0) rfl rfl
              by_cases hR2 : R2 = 0
              · subst hR2
                by_cases hR1 : R1 = d
                · subst hR1
                  rw [decide_eq_true rfl] at hsm
                  rw [if_pos rfl]
                  repeat (any_goals (first | (apply w_any; (first | refine RT.nil ?_ | refine RT.gy rfl ?_ | refine RT.mvA ?_ | refine RT.asA ?_ | (apply w_ld; (first | refine RT.v (f_ldOW rfl hb0 rfl rfl rfl rfl) ?_ | refine RT.v (f_ldO rfl hne2 rfl rfl rfl) ?_)) | refine RT.faA ?_ | refine RT.bnA ?_ | (apply w_cl; (first | (refine d_call ?_; refine RT.callM rfl hrw hsn rfl ?_) | refine RT.callM rfl (hsm) rfl rfl ?_)) | refine RT.pkA ?_ | refine RT.unA ?_ | (apply w_st; (first | refine RT.wr (f_stA rfl hnew rfl rfl rfl rfl rfl (by decide) rfl) (setLen (i := 0) rfl rfl) ?_ | refine RT.wr (f_stA rfl (hg_app _ hb1) rfl rfl rfl rfl rfl (by decide) rfl) rfl ?_)) | refine RT.new (s := H.length) rfl (f_allocL (z := [.nil, wI 0]) (m := 2) rfl rfl) rfl ?_ | refine RT.v (f_build (d := .agg [.ms q 0 m m, wI 0]) rfl) ?_)) | (apply v_any; (first | refine VT.seq rfl ?_ | refine VT.reg rfl ?_ | refine VT.condF rfl rfl ?_ | refine VT.skip rfl ?_ | refine VT.exit rfl ?_ | refine VT.ret rfl ?_ | refine VT.condN rfl rfl (by first | assumption | omega) ?_))))
                  refine kEr (resA_cell1 (sz := 2) (e := [.ms q 0 m m, wI 0]) rfl (List.getElem?_set_self (hg_lt (hg_app _ hb1))) rfl rfl rfl) ?_
                  exact congrArg (fun x => D.agg [x, wI 0]) (snapRLn (k := 3) (hg_ne (hg_app _ hq) (by omega)) hll.symm)
                · rw [decide_eq_false hR1] at hsm
                  rw [if_neg (fun h => hR1 (congrArg Prod.fst h))]
                  repeat (any_goals (first | (apply w_any; (first | refine RT.nil ?_ | refine RT.gy rfl ?_ | refine RT.mvA ?_ | refine RT.asA ?_ | (apply w_ld; (first | refine RT.v (f_ldOW rfl hb0 rfl rfl rfl rfl) ?_ | refine RT.v (f_ldO rfl hne2 rfl rfl rfl) ?_)) | refine RT.faA ?_ | refine RT.bnA ?_ | (apply w_cl; (first | (refine d_call ?_; refine RT.callM rfl hrw hsn rfl ?_) | refine RT.callM rfl (hsm) rfl rfl ?_)) | refine RT.pkA ?_ | refine RT.unA ?_ | (apply w_st; (first | refine RT.wr (f_stA rfl hnew rfl rfl rfl rfl rfl (by decide) rfl) (setLen (i := 0) rfl rfl) ?_ | refine RT.wr (f_stA rfl (hg_app _ hb1) rfl rfl rfl rfl rfl (by decide) rfl) rfl ?_)) | refine RT.new (s := H.length) rfl (f_allocL (z := [.nil, wI 0]) (m := 2) rfl rfl) rfl ?_ | refine RT.v (f_build (d := .agg [.nil, wI 7]) rfl) ?_)) | (apply v_any; (first | refine VT.seq rfl ?_ | refine VT.reg rfl ?_ | refine VT.condT rfl rfl ?_ | refine VT.exit rfl ?_ | refine VT.ret rfl ?_ | refine VT.condN rfl rfl (by first | assumption | omega) ?_)) | with_reducible (refine kSr ?_)))
                  exact kEr (resA_cell1 (sz := 2) (e := [.nil, wI 7]) rfl (List.getElem?_set_self (hg_lt (hg_app _ hb1))) rfl rfl rfl) rfl
              · rw [if_neg (fun h => hR2 (congrArg Prod.snd h))]
                repeat (any_goals (first | (apply w_any; (first | refine RT.nil ?_ | (apply w_g; (first | refine RT.gn rfl rfl ?_ | refine RT.gcY rfl rfl rfl (by first | assumption | omega) ?_)) | refine RT.mvA ?_ | refine RT.asA ?_ | (apply w_ld; (first | refine RT.v (f_ldOW rfl hb0 rfl rfl rfl rfl) ?_ | refine RT.v (f_ldO rfl hne2 rfl rfl rfl) ?_)) | refine RT.faA ?_ | refine RT.bnA ?_ | (apply w_cl; (first | (refine d_call ?_; refine RT.callM rfl hrw hsn rfl ?_) | refine RT.callM rfl (hsm) rfl rfl ?_)) | refine RT.pkA ?_ | (apply w_st; (first | refine RT.wr (f_stA rfl hnew rfl rfl rfl rfl rfl (by decide) rfl) (setLen (i := 0) rfl rfl) ?_ | refine RT.wr (f_stA rfl (hg_app _ hb1) rfl rfl rfl rfl rfl (by decide) rfl) rfl ?_)) | refine RT.new (s := H.length) rfl (f_allocL (z := [.nil, wI 0]) (m := 2) rfl rfl) rfl ?_ | refine RT.v (f_build (d := .agg [.nil, wI 7]) rfl) ?_)) | (apply v_any; (first | refine VT.seq rfl ?_ | refine VT.reg rfl ?_ | refine VT.condT rfl rfl ?_ | refine VT.exit rfl ?_ | refine VT.ret rfl ?_ | refine VT.condN rfl rfl (by first | assumption | omega) ?_)) | with_reducible (refine kSr ?_)))
                exact kEr (resA_cell1 (sz := 2) (e := [.nil, wI 7]) rfl (List.getElem?_set_self (hg_lt (hg_app _ hb1))) rfl rfl rfl) rfl
    | false =>
      rw [qd] at ha
      rw [if_neg (by simp)]
      repeat (any_goals (first | (apply w_any; (first | refine RT.nil ?_ | refine RT.mvA ?_ | refine RT.asA ?_ | refine RT.ldA ?_ | refine RT.bnA ?_ | (apply w_cl; (first | refine RT.callM rfl (hk) rfl rfl ?_ | refine RT.callM rfl (ha) rfl rfl ?_)) | refine RT.unA ?_ | refine RT.stA ?_ | refine RT.nwA ?_ | refine RT.nwA ?_ | refine RT.msA ?_)) | (apply v_any; (first | refine VT.seq rfl ?_ | refine VT.reg rfl ?_ | refine VT.condT rfl rfl ?_ | refine VT.condF rfl rfl ?_ | refine VT.skip rfl ?_ | refine VT.ret rfl ?_)) | with_reducible (refine kSr ?_) | (with_reducible refine d_kEr ?_; refine kEr rfl ?_)))
      rfl
  · rw [e] at hk ⊢
    rw [if_neg (by decide)]
    repeat (any_goals (first | (apply w_any; (first | refine RT.nil ?_ | refine RT.mvA ?_ | refine RT.asA ?_ | refine RT.ldA ?_ | refine RT.bnA ?_ | refine RT.callM rfl (hk) rfl rfl ?_ | refine RT.stA ?_ | refine RT.nwA ?_ | refine RT.nwA ?_ | refine RT.msA ?_)) | (apply v_any; (first | refine VT.seq rfl ?_ | refine VT.reg rfl ?_ | refine VT.condT rfl rfl ?_ | refine VT.ret rfl ?_)) | with_reducible (refine kSr ?_) | (with_reducible refine d_kEr ?_; refine kEr rfl ?_)))
    rfl
end Go.DL
