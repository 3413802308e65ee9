/- The reference's Mend and Spare. -/
import Derived.Test.YtmbbepdbjeciaaaGreatYi
import Derived.Test.YtmbbepdbjeciaaaGreatYj
import Derived.Test.YtmbbepdbjeciaaaGreatYa
set_option maxRecDepth 100000
set_option maxHeartbeats 16000000
namespace Go.DL
open Go.Proofs Go

/-- The blocks that stay: the shape, the result. -/
structure RB (H : List Blk) (k c w : Nat) : Prop where
  sh : H[0]? = some (.live 3 [[wI k, wI c, wI w]])
  res : H[1]? = some (.live 3 [[.nil, .nil, wI 0]])
section
variable {H : List Blk} {k c w q : Nat}
theorem RB.app (h : RB H k c w) (T : List Blk) : RB (H ++ T) k c w := ⟨blk_app T h.sh, blk_app T h.res⟩
theorem RB.other (h : RB H k c w) (h0 : 2 ≤ q) (y : Blk) : RB (H.set q y) k c w := ⟨blk_ne h.sh (by omega), blk_ne h.res (by omega)⟩
theorem RB.lt (h : RB H k c w) : 2 ≤ H.length := blk_lt h.res
end
theorem resA_one {P : Program} {n b x sz m : Nat} {t : TypeId} {a : AL} {H : List Blk} {e : List D} (h1 : lkN n a b = .mp x 0 0) (h2 : H[x]? = some (.live sz [e])) (ht : isAggD P t = some true) (hs : tsz P t = some m) (hn : e.length = m) : resA P [.cell b t] n a H = some (.agg e) := by
  subst hn
  have h3 : loadD P H t (.mp x 0 0) = some (.agg e) := by
    simp [loadD, peek, takeD, ht, hs, h2]
  simp [resA, resAL, resA1, h1, h3]
theorem snap3x {lk : Nat → Option Blk} {x x' : D} {a : Int} (h : snap lk 5 x = x') : [x, wI a].map (snap lk 5) = [x', wI a] := by
  rw [List.map_cons, h]; rfl
abbrev dMR (r : (List (List Int) × List Int) × Int) : D := .agg [.fl (r.1.1.map eRow), .fl (r.1.2.map eI), wI r.2]
theorem m_RMend0 {k c w e : Nat} {l : List Leaf} (hck : CkOk ⟨k, c, w⟩) (hv : LvOk k c w l) (hkl : k ≤ l.length) (he : ((l.length : Int) - k) / 2 = (e : Int)) (hc0 : Maps Tryz.prog 24 [dSh ⟨k, c, w⟩, .sl (l.map eLeaf)] (wI 0)) :
    ∀ res, res = (match colsM k e l w with | some cs => (if 2 * ((wrongM (wholeL (k + c) w (rowsM cs k)) l (k + c)).length : Int) + k ≤ l.length then D.agg [.fl ((rowsM cs k).map eRow), .fl ((wrongM (wholeL (k + c) w (rowsM cs k)) l (k + c)).map eI), wI 0] else .agg [.fl [], .fl [], wI 9]) | none => .agg [.fl [], .fl [], wI 9]) → Maps Tryz.prog 26 [dSh ⟨k, c, w⟩, .sl (l.map eLeaf)] res := by
  intro res hres
  have hk1 := hv.k1
  have hk2 := hv.k2
  have hw1 := hv.w1
  have hw2 := hv.w2
  have hll := hv.len
  have hke : k + 2 * e ≤ l.length := by omega
  change Maps Tryz.prog 24 [.agg [wI k, wI c, wI w], .sl (l.map eLeaf)] (wI 0) at hc0
  change Maps Tryz.prog 26 [.agg [wI k, wI c, wI w], .sl (l.map eLeaf)] res
  refine Maps.vt pok Tryz.f26 (n := 106) (rs := [.cell 4 46]) rfl rfl rfl rfl rfl rfl fun g => ?_
  repeat (any_goals (first | (refine d_RT ?_; (first | refine RT.nil ?_ | refine RT.new rfl (f_allocL (z := [.nil, .nil, wI 0]) (m := 3) rfl rfl) (by first | (simp only [nrm]; rfl) | (simp only [nrm, Nat.reduceAdd, Nat.zero_add]; rfl) | rfl) ?_ | refine RT.new rfl (f_make (z := [.nil]) (sz := 1) (m := k) (by' := 24) rfl rfl rfl rfl rfl (by decide) rfl rfl (by omega) (by omega)) (by first | (simp only [nrm]; rfl) | (simp only [nrm, Nat.reduceAdd, Nat.zero_add]; rfl) | rfl) ?_ | refine RT.mvA ?_ | refine RT.asA ?_ | refine RT.ldA ?_ | refine RT.faA ?_ | refine RT.bnA ?_ | (refine d_call ?_; (first | refine RT.callM rfl (hc0) rfl rfl ?_ | refine RT.clA ?_)) | refine RT.nwA ?_)) | (refine d_VT ?_; (first | refine VT.seq rfl ?_ | refine VT.reg rfl ?_ | refine VT.condF rfl rfl ?_ | refine VT.condN rfl rfl (by first | assumption | omega) ?_ | refine VT.block rfl ?_ | refine VT.skip rfl ?_))))
  refine VT.loop (fun jj a H g' => ∃ (j N : Nat) (cells : List D) (cs : List (List Int)), jj = w - j ∧ j ≤ w ∧ colsM k e l j = some cs ∧ RB H k c w ∧ CS H 3 N 2 k cells (rowsM cs k) ∧ N ≤ H.length ∧ a = [(1, .sl (l.map eLeaf)), (2, .mp 0 0 0), (4, .mp 1 0 0), (6, .ms 2 0 k k), (7, wI j)] ∧ g' = g) rfl
    ⟨_, _, [.live 3 [[wI k, wI c, wI w]], .live 3 [[.nil, .nil, wI 0]], .live 1 (List.replicate k [.nil])], ⟨0, 3, List.replicate k .nil, [], rfl, Nat.zero_le _, rfl, ⟨rfl, rfl⟩, ?_, Nat.le_refl _, rfl, rfl⟩, Wk.keep (by (repeat first | exact True.intro | refine And.intro ?_ ?_ | exact Or.inr (Or.inl rfl) | exact Or.inl rfl | (refine DLe.i rfl ?_; omega) | (refine DLe.i rfl ?_; simp; done)))⟩ ?_
  · rw [rowsM_zero]
    have hn : ∀ i, (List.replicate k D.nil).getD i .nil = .nil := fun i => by
      simp only [List.getD_eq_getElem?_getD, List.getElem?_replicate]; split <;> rfl
    have hn2 : ∀ i, (List.replicate k ([] : List Int)).getD i [] = [] := fun i => by
      simp only [List.getD_eq_getElem?_getD, List.getElem?_replicate]; split <;> rfl
    refine ⟨?_, by simp, by simp, fun i hi => .inl ⟨hn i, hn2 i⟩, fun i p m hi h => (by rw [hn] at h; cases h), fun i j p m m' hi hj h => (by rw [hn] at h; cases h)⟩
    rw [List.map_replicate]; rfl
  rintro jj a H g' ⟨j, N, cells, cs, rfl, hj, hcs, hMB, hCS, hN, rfl, rfl⟩
  have h4 := hMB.lt
  have h3 := blk_lt hCS.rows
  by_cases hlj : j < w
  · repeat (any_goals (first | (refine d_RT ?_; (first | refine RT.nil ?_ | refine RT.v (f_ldO rfl hMB.sh rfl rfl rfl) ?_ | refine RT.mvA ?_ | refine RT.asA ?_ | refine RT.faA ?_ | refine RT.bnA ?_)) | (refine d_VT ?_; (first | refine VT.seq rfl ?_ | refine VT.reg rfl ?_ | refine VT.condY rfl rfl (by first | assumption | omega) ?_ | refine VT.block rfl ?_ | refine VT.skip rfl ?_))))
    refine VT.phantom (i := 8) (s := H.length) (H' := H ++ [.live 2 []]) 2 rfl rfl rfl ?_
    obtain ⟨N0, hN0⟩ : ∃ N0, N0 = H.length := ⟨_, rfl⟩
    rw [← hN0]
    refine VT.loop (fun jj a H1 g2 => ∃ (i b : Nat), jj = l.length - i ∧ i ≤ l.length ∧ RB H1 k c w ∧ CS H1 3 N0 2 k cells (rowsM cs k) ∧ N0 ≤ b ∧ H1[b]? = some (.live 2 ((dotsL (l.take i) j).map eDot)) ∧ a = [(1, .sl (l.map eLeaf)), (2, .mp 0 0 0), (4, .mp 1 0 0), (6, .ms 2 0 k k), (7, wI j), (8, .ms b 0 i i), (9, wI i)] ∧ g2 = g') rfl
      ⟨_, _, H ++ [.live 2 []], ⟨0, N0, rfl, Nat.zero_le _, hMB.app _, (hCS.mono (by omega)).app _, Nat.le_refl _, by rw [hN0]; exact blk_at (t := 0) rfl rfl, rfl, rfl⟩, Wk.keep (by (repeat first | exact True.intro | refine And.intro ?_ ?_ | exact Or.inr (Or.inl rfl) | exact Or.inl rfl | (refine DLe.i rfl ?_; omega) | (refine DLe.i rfl ?_; simp; done)))⟩ ?_
    rw [hN0] at *
    clear hN0 N0
    rintro jj a H1 g2 ⟨i, b, rfl, hi, hMB1, hCS1, hb, hdots, rfl, rfl⟩
    have h41 := hMB1.lt
    have h31 := blk_lt hCS1.rows
    have hbl := blk_lt hdots
    by_cases hlt : i < l.length
    · obtain ⟨hwl, hwW⟩ := hv.wl l[i] (List.getElem_mem hlt)
      have hwj : l[i].Words.getD j 0 = l[i].Words[j]'(by omega) := by rw [List.getD_eq_getElem?_getD, List.getElem?_eq_getElem (by omega)]; rfl
      have hdl : (dotsL (l.take i) j).length = i := by rw [dotsL_len, List.length_take]; omega
      repeat (any_goals (first | (refine d_RT ?_; (first | refine RT.nil ?_ | refine RT.mvA ?_ | refine RT.asA ?_ | refine RT.bnA ?_ | refine RT.clA ?_)) | (refine d_VT ?_; (first | refine VT.seq rfl ?_ | refine VT.reg rfl ?_ | refine VT.draw [(2, [0, 1]), (2, [0, 1]), (2, [0, 1]), (2, [0, 1]), (2, [0, 1]), (2, [0, 1]), (2, [0, 1]), (2, [0, 1]), (2, [0, 1]), (2, [0, 1]), (2, [0, 1]), (2, [0, 1]), (2, [0, 1]), (2, [0, 1]), (2, [0, 1]), (0, [0, 1]), (1, [1]), (2, [])] 3 mixedOk rfl (by decide +kernel) (by decide +kernel) (by decide +kernel) (by first | (simp only [nrm]; rfl) | (simp only [nrm, Nat.reduceAdd, Nat.zero_add]; rfl) | rfl) (by first | (simp only [nrm]; rfl) | (simp only [nrm, Nat.reduceAdd, Nat.zero_add]; rfl) | rfl) ?_ | refine VT.condY rfl rfl (by first | assumption | omega) ?_ | refine VT.block rfl ?_ | refine VT.skip rfl ?_)) | (refine d_PT ?_; (first | refine PT.vI (by first | exact mask_app (H0 := H1) (T := [_, _, _]) rfl | exact mask_app' (H1 := H1.set b .dead) (T := [_, _, _]) (by simp) rfl) (f_build (d := .agg (eDot (Dot.mk l[i].Number (l[i].Words[j]'(by omega))))) rfl) ?_ | refine PT.newI (by first | exact mask_app (H0 := H1) (T := [_, _, _]) rfl | exact mask_app' (H1 := H1.set b .dead) (T := [_, _, _]) (by simp) rfl) (s' := H1.length + 0) rfl (f_bsl (ps := [(0, .tmp 56)]) (sz := 2) (es := [eDot (Dot.mk l[i].Number (l[i].Words[j]'(by omega)))]) rfl) (setLen (i := 0) (T' := [.live 2 [eDot (Dot.mk l[i].Number (l[i].Words[j]'(by omega)))], .free, .free]) rfl rfl) ?_ | refine PT.apI (by first | exact mask_app (H0 := H1) (T := [_, _, _]) rfl | exact mask_app' (H1 := H1.set b .dead) (T := [_, _, _]) (by simp) rfl) (s' := H1.length + 1) rfl (f_appT (f := eDot) (o := dotsL (l.take i) j) (v := [(Dot.mk l[i].Number (l[i].Words[j]'(by omega)))]) (mm := i + 1) (by' := 16) rfl rfl (blk_app _ hdots) (List.take_of_length_le (by rw [List.length_map, hdl]; exact Nat.le_refl _)) (by rw [List.length_map, hdl]; exact Nat.le_refl _) (blk_at (t := 0) rfl rfl) hdl.symm rfl (by rw [hdl]; rfl) rfl (by decide) rfl rfl (fun _ => ⟨rfl, rfl⟩) (by rw [hdl]; simp; omega) (by rw [hdl]; simp; omega)) (killLen (T' := [.live 2 [eDot (Dot.mk l[i].Number (l[i].Words[j]'(by omega)))], .live 2 ((dotsL (l.take i) j ++ [(Dot.mk l[i].Number (l[i].Words[j]'(by omega)))]).map eDot), .free]) hbl rfl rfl) ?_ | refine PT.done (dropLn (H1.set b .dead) [_, _] .free) ?_ | refine PT.mvI ((by first | exact mask_app (H0 := H1) (T := [_, _, _]) rfl | exact mask_app' (H1 := H1.set b .dead) (T := [_, _, _]) (by simp) rfl)) ?_ | refine PT.asI ((by first | exact mask_app (H0 := H1) (T := [_, _, _]) rfl | exact mask_app' (H1 := H1.set b .dead) (T := [_, _, _]) (by simp) rfl)) ?_ | refine PT.ldI ((by first | exact mask_app (H0 := H1) (T := [_, _, _]) rfl | exact mask_app' (H1 := H1.set b .dead) (T := [_, _, _]) (by simp) rfl)) ?_ | refine PT.faI ((by first | exact mask_app (H0 := H1) (T := [_, _, _]) rfl | exact mask_app' (H1 := H1.set b .dead) (T := [_, _, _]) (by simp) rfl)) ?_ | refine PT.ixI ((by first | exact mask_app (H0 := H1) (T := [_, _, _]) rfl | exact mask_app' (H1 := H1.set b .dead) (T := [_, _, _]) (by simp) rfl)) ?_)) | with_reducible (refine kLn ?_)))
      refine ⟨l.length - (i + 1), by omega, _, _, ⟨i + 1, H1.length + 1, rfl, hlt, (hMB1.other (by omega) _).app _, (hCS1.other (by omega) (by omega) _).app _, by omega, ?_, rfl, rfl⟩, Wk.keep (by (repeat first | exact True.intro | refine And.intro ?_ ?_ | exact Or.inr (Or.inl rfl) | exact Or.inl rfl | (refine DLe.i rfl ?_; omega) | (refine DLe.i rfl ?_; simp; done)))⟩
      rw [dotsL_snoc l j i hlt, hwj]
      exact blk_at (t := 1) (by simp) rfl
    · obtain rfl : i = l.length := by omega
      rw [List.take_length] at hdots
      have hsn : ([.ms b 0 l.length l.length, wI k] : List D).map (snap (fun b => H1[b]?) 5) = [.sl ((dotsL l j).map eDot), wI k] := by
        have h1 := snapDot (lk := fun b => H1[b]?) (cap := l.length) hdots
        rw [dotsL_len] at h1
        exact snap3x h1
      have hdec := m_rdecode (k := k) (e := e) (ds := dotsL l j) (by rw [dotsL_len]; exact hkl) (by rw [dotsL_len]; exact he) (by rw [dotsL_len]; omega) (hv.dots hlj) (by rw [dotsL_num]; exact hv.ap)
      cases hcol : colM k e l j with
      | none =>
        have h66 := hdec.2 hcol
        rw [colsM_none (colsM_stop hcs hcol) w (by omega)] at hres
        repeat (any_goals (first | (refine d_RT ?_; (first | refine RT.nil ?_ | (refine d_call ?_; refine RT.callM rfl h66 hsn rfl ?_) | refine RT.v (f_ldO rfl hMB1.sh rfl rfl rfl) ?_ | (refine d_bld ?_; refine RT.v (f_build (d := .agg [.nil, .nil, wI 9]) rfl) ?_) | refine RT.wr (f_stA rfl hMB1.res rfl rfl rfl rfl rfl (by decide) rfl) rfl ?_ | refine RT.mvA ?_ | refine RT.asA ?_ | refine RT.faA ?_ | refine RT.bnA ?_ | refine RT.clA ?_ | refine RT.exA ?_ | refine RT.unA ?_)) | (refine d_VT ?_; (first | refine VT.seq rfl ?_ | refine VT.reg rfl ?_ | refine VT.condT rfl rfl ?_ | refine VT.condN rfl rfl (by first | assumption | omega) ?_ | refine VT.exit rfl ?_ | refine VT.ret rfl ?_)) | (with_reducible first | refine kSr ?_ | refine kBr ?_ | refine kLr ?_)))
        refine kEr (resA_one (sz := 3) (e := [.nil, .nil, wI 9]) rfl (List.getElem?_set_self (blk_lt hMB1.res)) rfl rfl rfl) ?_
        exact hres.symm
      | some col =>
        have h66 := hdec.1 col hcol
        repeat (any_goals (first | (refine d_RT ?_; (first | refine RT.nil ?_ | (refine d_call ?_; refine RT.callM rfl h66 hsn rfl ?_) | refine RT.v (f_ldO rfl hMB1.sh rfl rfl rfl) ?_ | refine RT.mvA ?_ | refine RT.asA ?_ | refine RT.faA ?_ | refine RT.bnA ?_ | refine RT.clA ?_ | refine RT.exA ?_ | refine RT.unA ?_)) | (refine d_VT ?_; (first | refine VT.seq rfl ?_ | refine VT.reg rfl ?_ | refine VT.condF rfl rfl ?_ | refine VT.condN rfl rfl (by first | assumption | omega) ?_ | refine VT.block rfl ?_ | refine VT.skip rfl ?_ | refine VT.exit rfl ?_))))
        have hgood := DM.decS_good hcol
        have hcl := hgood.len
        have hcW : allW col := hgood.W
        refine VT.loop (fun jj a H2 g3 => ∃ (i N : Nat) (cells : List D), jj = k - i ∧ i ≤ k ∧ RB H2 k c w ∧ CS H2 3 N 2 k cells (rowsP cs col k i) ∧ N ≤ H2.length ∧ a = [(1, .sl (l.map eLeaf)), (2, .mp 0 0 0), (4, .mp 1 0 0), (6, .ms 2 0 k k), (7, wI j), (10, .fl (col.map eI)), (12, wI i)] ∧ g3 = g2) rfl
          ⟨_, _, H1, ⟨0, H.length, cells, rfl, Nat.zero_le _, hMB1, by rw [rowsP_zero]; exact hCS1, by omega, rfl, rfl⟩, Wk.keep (by (repeat first | exact True.intro | refine And.intro ?_ ?_ | exact Or.inr (Or.inl rfl) | exact Or.inl rfl | (refine DLe.i rfl ?_; omega) | (refine DLe.i rfl ?_; simp; done)))⟩ ?_
        clear hMB hCS hMB1 hCS1 hdots hbl hsn hdec h66 hb h41 hN h4 hres h31 h3
        rintro jj a H2 g3 ⟨i, N2, cells2, rfl, hi2, hMB2, hCS2, hN2, rfl, rfl⟩
        have h42 := hMB2.lt
        have h32 := blk_lt hCS2.rows
        by_cases hlt2 : i < k
        · have hval := m_rvalue col ((i : Int) + 1) (by omega) hcW ⟨by omega, by omega⟩
          have hcell := hCS2.cell hlt2
          rcases hCS2.row i hlt2 with ⟨hc, hM⟩ | ⟨p, m, hc, hm, hp⟩
          · rw [hc] at hcell
            repeat (any_goals (first | (refine d_RT ?_; (first | refine RT.nil ?_ | refine RT.v (f_ldO rfl hMB2.sh rfl rfl rfl) ?_ | refine RT.mvA ?_ | refine RT.asA ?_ | refine RT.faA ?_ | refine RT.bnA ?_)) | (refine d_VT ?_; (first | refine VT.seq rfl ?_ | refine VT.reg rfl ?_ | refine VT.draw [(3, [0, 1, 2]), (3, [0, 1, 2]), (3, [0, 1, 2]), (3, [0, 1, 2]), (3, [0, 1, 2]), (3, [0, 1, 2]), (3, [0, 1, 2]), (3, [0, 1, 2]), (3, [0, 1, 2]), (3, [0, 1, 2]), (0, [0, 1, 2]), (1, [1, 2]), (3, [2]), (2, [2])] 4 mixedOk rfl (by decide +kernel) (by decide +kernel) (by decide +kernel) (by first | (simp only [nrm]; rfl) | (simp only [nrm, Nat.reduceAdd, Nat.zero_add]; rfl) | rfl) (by first | (simp only [nrm]; rfl) | (simp only [nrm, Nat.reduceAdd, Nat.zero_add]; rfl) | rfl) ?_ | refine VT.condY rfl rfl (by first | assumption | omega) ?_ | refine VT.block rfl ?_ | refine VT.skip rfl ?_)) | (refine d_PT ?_; (first | refine PT.vI (by first | exact mask_app (H0 := H2) (T := [_, _, _, _]) rfl | exact mask_app' (H1 := H2.set 2 _) (T := [_, _, _, _]) (by simp) rfl) (f_ixO0 (k := i) rfl rfl rfl (blk_app _ hCS2.rows) rfl hlt2) ?_ | refine PT.vI (by first | exact mask_app (H0 := H2) (T := [_, _, _, _]) rfl | exact mask_app' (H1 := H2.set 2 _) (T := [_, _, _, _]) (by simp) rfl) (f_ldO rfl (blk_app _ hCS2.rows) hcell rfl rfl) ?_ | refine PT.newI (by first | exact mask_app (H0 := H2) (T := [_, _, _, _]) rfl | exact mask_app' (H1 := H2.set 2 _) (T := [_, _, _, _]) (by simp) rfl) (s' := H2.length + 0) rfl (f_bslW1 rfl rfl rfl) (setLen (i := 0) (T' := [.live 1 ([horner col ((i : Int) + 1)].map eI), .free, .free, .free]) rfl rfl) ?_ | refine PT.apI (by first | exact mask_app (H0 := H2) (T := [_, _, _, _]) rfl | exact mask_app' (H1 := H2.set 2 _) (T := [_, _, _, _]) (by simp) rfl) (s' := H2.length + 1) rfl (f_appT0 (f := eI) (v := [horner col ((i : Int) + 1)]) (mm := 1) (by' := 8) rfl rfl (blk_at (t := 0) rfl rfl) rfl rfl rfl (by decide) rfl rfl (fun _ => ⟨rfl, rfl⟩) (by simp) (by simp)) (setLen (i := 1) (T' := [.live 1 ([horner col ((i : Int) + 1)].map eI), .live 1 ([horner col ((i : Int) + 1)].map eI), .free, .free]) rfl rfl) ?_ | refine PT.wrI (by first | exact mask_app (H0 := H2) (T := [_, _, _, _]) rfl | exact mask_app' (H1 := H2.set 2 _) (T := [_, _, _, _]) (by simp) rfl) (f_stV rfl (blk_app _ hCS2.rows) hcell rfl rfl rfl rfl) (List.set_append_left _ _ (by omega)) ?_ | refine PT.done (dropLn (H2.set 2 _) [_, _, _] .free) ?_ | refine PT.mvI ((by first | exact mask_app (H0 := H2) (T := [_, _, _, _]) rfl | exact mask_app' (H1 := H2.set 2 _) (T := [_, _, _, _]) (by simp) rfl)) ?_ | refine PT.bnI ((by first | exact mask_app (H0 := H2) (T := [_, _, _, _]) rfl | exact mask_app' (H1 := H2.set 2 _) (T := [_, _, _, _]) (by simp) rfl)) ?_ | refine PT.callI ((by first | exact mask_app (H0 := H2) (T := [_, _, _, _]) rfl | exact mask_app' (H1 := H2.set 2 _) (T := [_, _, _, _]) (by simp) rfl)) rfl (hval) (by first | (simp only [nrm]; rfl) | (simp only [nrm, Nat.reduceAdd, Nat.zero_add]; rfl) | rfl) rfl ?_)) | with_reducible (refine kLn ?_)))
            refine ⟨k - (i + 1), by omega, _, _, ⟨i + 1, H2.length + 3, cells2.set i (.ms (H2.length + 1) 0 1 1), rfl, hlt2, (hMB2.other (by omega) _).app _, ?_, by simp, rfl, rfl⟩, Wk.keep (by (repeat first | exact True.intro | refine And.intro ?_ ?_ | exact Or.inr (Or.inl rfl) | exact Or.inl rfl | (refine DLe.i rfl ?_; omega) | (refine DLe.i rfl ?_; simp; done)))⟩
            rw [← rowsP_set cs col hlt2]
            exact hCS2.upd (H1 := H2) hN2 (by omega) (by omega) hlt2 rfl (fun _ _ _ _ _ _ => rfl) (t := 1) (m := 1) (by rw [hM]; rfl) (by rw [hM]; rfl)
          · rw [hc] at hcell
            have hpl := hCS2.lt i p m hlt2 hc
            have hmj : m ≤ 32 := by rw [hm, rowsP_get cs col hlt2, if_neg (Nat.lt_irrefl _), List.length_map, colsM_len hcs]; omega
            repeat (any_goals (first | (refine d_RT ?_; (first | refine RT.nil ?_ | refine RT.v (f_ldO rfl hMB2.sh rfl rfl rfl) ?_ | refine RT.mvA ?_ | refine RT.asA ?_ | refine RT.faA ?_ | refine RT.bnA ?_)) | (refine d_VT ?_; (first | refine VT.seq rfl ?_ | refine VT.reg rfl ?_ | refine VT.draw [(3, [0, 1, 2]), (3, [0, 1, 2]), (3, [0, 1, 2]), (3, [0, 1, 2]), (3, [0, 1, 2]), (3, [0, 1, 2]), (3, [0, 1, 2]), (3, [0, 1, 2]), (3, [0, 1, 2]), (3, [0, 1, 2]), (0, [0, 1, 2]), (1, [1, 2]), (3, [2]), (2, [2])] 4 mixedOk rfl (by decide +kernel) (by decide +kernel) (by decide +kernel) (by first | (simp only [nrm]; rfl) | (simp only [nrm, Nat.reduceAdd, Nat.zero_add]; rfl) | rfl) (by first | (simp only [nrm]; rfl) | (simp only [nrm, Nat.reduceAdd, Nat.zero_add]; rfl) | rfl) ?_ | refine VT.condY rfl rfl (by first | assumption | omega) ?_ | refine VT.block rfl ?_ | refine VT.skip rfl ?_)) | (refine d_PT ?_; (first | refine PT.vI (by first | exact mask_app (H0 := H2) (T := [_, _, _, _]) rfl | exact mask_app' (H1 := H2.set p .dead) (T := [_, _, _, _]) (by simp) rfl | exact mask_app' (H1 := (H2.set p .dead).set 2 _) (T := [_, _, _, _]) (by simp) rfl) (f_ixO0 (k := i) rfl rfl rfl (blk_app _ hCS2.rows) rfl hlt2) ?_ | refine PT.vI (by first | exact mask_app (H0 := H2) (T := [_, _, _, _]) rfl | exact mask_app' (H1 := H2.set p .dead) (T := [_, _, _, _]) (by simp) rfl | exact mask_app' (H1 := (H2.set p .dead).set 2 _) (T := [_, _, _, _]) (by simp) rfl) (f_ixO0 (k := i) rfl rfl rfl (blk_app _ (blk_ne hCS2.rows (by omega))) rfl hlt2) ?_ | refine PT.vI (by first | exact mask_app (H0 := H2) (T := [_, _, _, _]) rfl | exact mask_app' (H1 := H2.set p .dead) (T := [_, _, _, _]) (by simp) rfl | exact mask_app' (H1 := (H2.set p .dead).set 2 _) (T := [_, _, _, _]) (by simp) rfl) (f_ldO rfl (blk_app _ hCS2.rows) hcell rfl rfl) ?_ | refine PT.newI (by first | exact mask_app (H0 := H2) (T := [_, _, _, _]) rfl | exact mask_app' (H1 := H2.set p .dead) (T := [_, _, _, _]) (by simp) rfl | exact mask_app' (H1 := (H2.set p .dead).set 2 _) (T := [_, _, _, _]) (by simp) rfl) (s' := H2.length + 0) rfl (f_bslW1 rfl rfl rfl) (setLen (i := 0) (T' := [.live 1 ([horner col ((i : Int) + 1)].map eI), .free, .free, .free]) rfl rfl) ?_ | refine PT.apI (by first | exact mask_app (H0 := H2) (T := [_, _, _, _]) rfl | exact mask_app' (H1 := H2.set p .dead) (T := [_, _, _, _]) (by simp) rfl | exact mask_app' (H1 := (H2.set p .dead).set 2 _) (T := [_, _, _, _]) (by simp) rfl) (s' := H2.length + 1) rfl (f_appT (f := eI) (o := (rowsP cs col k i).getD i []) (v := [horner col ((i : Int) + 1)]) (mm := m + 1) (by' := 8) rfl rfl (blk_app _ hp) (List.take_of_length_le (by rw [List.length_map]; omega)) (by rw [List.length_map]; omega) (blk_at (t := 0) rfl rfl) hm rfl (by rw [← hm]; rfl) rfl (by decide) rfl rfl (fun _ => ⟨rfl, rfl⟩) (by rw [← hm]; simp; omega) (by rw [← hm]; simp; omega)) (killLen (T' := [.live 1 ([horner col ((i : Int) + 1)].map eI), .live 1 (((rowsP cs col k i).getD i [] ++ [horner col ((i : Int) + 1)]).map eI), .free, .free]) (blk_lt hp) rfl rfl) ?_ | refine PT.wrI (by first | exact mask_app (H0 := H2) (T := [_, _, _, _]) rfl | exact mask_app' (H1 := H2.set p .dead) (T := [_, _, _, _]) (by simp) rfl | exact mask_app' (H1 := (H2.set p .dead).set 2 _) (T := [_, _, _, _]) (by simp) rfl) (f_stV rfl (blk_app _ (blk_ne hCS2.rows (by omega))) hcell rfl rfl rfl rfl) (List.set_append_left _ _ (by rw [List.length_set]; omega)) ?_ | refine PT.done (dropLn ((H2.set p .dead).set 2 _) [_, _, _] .free) ?_ | refine PT.mvI ((by first | exact mask_app (H0 := H2) (T := [_, _, _, _]) rfl | exact mask_app' (H1 := H2.set p .dead) (T := [_, _, _, _]) (by simp) rfl | exact mask_app' (H1 := (H2.set p .dead).set 2 _) (T := [_, _, _, _]) (by simp) rfl)) ?_ | refine PT.bnI ((by first | exact mask_app (H0 := H2) (T := [_, _, _, _]) rfl | exact mask_app' (H1 := H2.set p .dead) (T := [_, _, _, _]) (by simp) rfl | exact mask_app' (H1 := (H2.set p .dead).set 2 _) (T := [_, _, _, _]) (by simp) rfl)) ?_ | refine PT.callI ((by first | exact mask_app (H0 := H2) (T := [_, _, _, _]) rfl | exact mask_app' (H1 := H2.set p .dead) (T := [_, _, _, _]) (by simp) rfl | exact mask_app' (H1 := (H2.set p .dead).set 2 _) (T := [_, _, _, _]) (by simp) rfl)) rfl (hval) (by first | (simp only [nrm]; rfl) | (simp only [nrm, Nat.reduceAdd, Nat.zero_add]; rfl) | rfl) rfl ?_)) | with_reducible (refine kLn ?_)))
            refine ⟨k - (i + 1), by omega, _, _, ⟨i + 1, H2.length + 3, cells2.set i (.ms (H2.length + 1) 0 (m + 1) (m + 1)), rfl, hlt2, ((hMB2.other (by omega) _).other (by omega) _).app _, ?_, by simp, rfl, rfl⟩, Wk.keep (by (repeat first | exact True.intro | refine And.intro ?_ ?_ | exact Or.inr (Or.inl rfl) | exact Or.inl rfl | (refine DLe.i rfl ?_; omega) | (refine DLe.i rfl ?_; simp; done)))⟩
            rw [← rowsP_set cs col hlt2]
            exact hCS2.upd (H1 := H2.set p .dead) hN2 (by omega) (by omega) hlt2 (by simp) (fun j' p' m' hj' hne hc' => List.getElem?_set_ne fun e => hne (hCS2.nd j' i p' m' m hj' hlt2 hc' (by rw [hc, e]))) (t := 1) (m := m + 1) (by rw [hm]) rfl
        · obtain rfl : i = k := by omega
          rw [rowsP_all] at hCS2
          repeat (any_goals (first | (refine d_RT ?_; (first | refine RT.nil ?_ | refine RT.v (f_ldO rfl hMB2.sh rfl rfl rfl) ?_ | refine RT.mvA ?_ | refine RT.asA ?_ | refine RT.faA ?_ | refine RT.bnA ?_)) | (refine d_VT ?_; (first | refine VT.seq rfl ?_ | refine VT.reg rfl ?_ | refine VT.condN rfl rfl (by first | assumption | omega) ?_ | refine VT.exit rfl ?_)) | with_reducible (refine kLn ?_)))
          exact ⟨w - (j + 1), by omega, _, _, ⟨j + 1, N2, cells2, cs ++ [col], rfl, hlj, colsM_next hcs hcol, hMB2, hCS2, hN2, rfl, rfl⟩, Wk.keep (by (repeat first | exact True.intro | refine And.intro ?_ ?_ | exact Or.inr (Or.inl rfl) | exact Or.inl rfl | (refine DLe.i rfl ?_; omega) | (refine DLe.i rfl ?_; simp; done)))⟩
  · obtain rfl : j = w := by omega
    rw [hcs] at hres
    dsimp only at hres
    have hcl := colsM_len hcs
    have hne : ∀ i, i < k → (rowsM cs k).getD i [] ≠ [] := fun i hi e => by
      rw [rowsM_get cs hi] at e
      have := congrArg List.length e
      simp at this
      rw [this] at hcl; simp at hcl; omega
    have hwr := m_rwrong (l := l) (d := rowsM cs k) hck (rowsM_dataW hk2 hcl) (by omega) (fun x hx => by have := (hv.wl x hx).1; omega)
    change Maps Tryz.prog 84 [.agg [wI k, wI c, wI j], .sl (l.map eLeaf), .sl ((rowsM cs k).map eRow)] _ at hwr
    have hwl : (wrongM (wholeL (k + c) j (rowsM cs k)) l (k + c)).length ≤ l.length := DM.wrong_len _ _ _ _
    generalize wrongM (wholeL (k + c) j (rowsM cs k)) l (k + c) = wr at hres hwr hwl
    have hsn : ([.agg [wI k, wI c, wI j], .sl (l.map eLeaf), .ms 2 0 k k] : List D).map (snap (fun b => H[b]?) 5) = [.agg [wI k, wI c, wI j], .sl (l.map eLeaf), .sl ((rowsM cs k).map eRow)] := by
      rw [List.map_cons, List.map_cons, List.map_cons, List.map_nil, hCS.snap hne 3]; rfl
    by_cases h2 : 2 * (wr.length : Int) + k ≤ l.length
    · rw [if_pos h2] at hres
      repeat (any_goals (first | (refine d_RT ?_; (first | refine RT.nil ?_ | refine RT.v (f_ldOW rfl hMB.sh rfl rfl rfl rfl) ?_ | refine RT.v (f_ldO rfl hMB.sh rfl rfl rfl) ?_ | (refine d_call ?_; refine RT.callM rfl hwr hsn rfl ?_) | (refine d_bld ?_; refine RT.v (f_build (d := .agg [.ms 2 0 k k, .fl (wr.map eI)]) rfl) ?_) | (refine d_bld ?_; refine RT.v (f_build (d := .agg [.ms 2 0 k k, .fl (wr.map eI), wI 0]) rfl) ?_) | refine RT.wr (f_stA rfl hMB.res rfl rfl rfl rfl rfl (by decide) rfl) rfl ?_ | refine RT.mvA ?_ | refine RT.asA ?_ | refine RT.faA ?_ | refine RT.bnA ?_ | refine RT.clA ?_)) | (refine d_VT ?_; (first | refine VT.seq rfl ?_ | refine VT.reg rfl ?_ | refine VT.condN rfl rfl (by first | assumption | omega) ?_ | refine VT.skip rfl ?_ | refine VT.exit rfl ?_ | refine VT.ret rfl ?_))))
      refine kEr (resA_one (sz := 3) (e := [.ms 2 0 k k, .fl (wr.map eI), wI 0]) rfl (List.getElem?_set_self (blk_lt hMB.res)) rfl rfl rfl) ?_
      have hs1 := (hCS.other (q := 1) (by omega) (by omega) (.live 3 [[.ms 2 0 k k, .fl (wr.map eI), wI 0]])).snapR hne 1
      refine Eq.trans ?_ hres.symm
      show D.agg [snapR _ 4 (.ms 2 0 k k), .fl (wr.map eI), wI 0] = _
      rw [← hs1]; rfl
    · rw [if_neg h2] at hres
      repeat (any_goals (first | (refine d_RT ?_; (first | refine RT.nil ?_ | refine RT.v (f_ldOW rfl hMB.sh rfl rfl rfl rfl) ?_ | refine RT.v (f_ldO rfl hMB.sh rfl rfl rfl) ?_ | (refine d_call ?_; refine RT.callM rfl hwr hsn rfl ?_) | (refine d_bld ?_; refine RT.v (f_build (d := .agg [.nil, .nil, wI 9]) rfl) ?_) | refine RT.wr (f_stA rfl hMB.res rfl rfl rfl rfl rfl (by decide) rfl) rfl ?_ | refine RT.mvA ?_ | refine RT.asA ?_ | refine RT.faA ?_ | refine RT.bnA ?_ | refine RT.clA ?_)) | (refine d_VT ?_; (first | refine VT.seq rfl ?_ | refine VT.reg rfl ?_ | refine VT.condY rfl rfl (by first | assumption | omega) ?_ | refine VT.condN rfl rfl (by first | assumption | omega) ?_ | refine VT.exit rfl ?_ | refine VT.ret rfl ?_)) | with_reducible (refine kSr ?_)))
      refine kEr (resA_one (sz := 3) (e := [.nil, .nil, wI 9]) rfl (List.getElem?_set_self (blk_lt hMB.res)) rfl rfl rfl) ?_
      exact hres.symm
end Go.DL
