/- The data of leaves, and which leaves are wrong. -/
import Derived.Test.YtmbbepdbjeciaaaGreatZm2
set_option linter.all false
set_option maxRecDepth 100000
set_option maxHeartbeats 16000000
namespace Go.DL
open Go.Proofs Go

/-- The blocks that stay: the shape, the result, the answer. -/
structure MB (H : List Blk) (k c w : Nat) (x : D) : Prop where
  sh : H[0]? = some (.live 3 [[wI k, wI c, wI w]])
  res : H[1]? = some (.live 2 [[.nil, .nil]])
  m : H[3]? = some (.live 2 [[.ms 2 0 k k, x]])
section
variable {H : List Blk} {k c w q : Nat} {x : D}
theorem MB.app (h : MB H k c w x) (T : List Blk) : MB (H ++ T) k c w x := ⟨blk_app T h.sh, blk_app T h.res, blk_app T h.m⟩
theorem MB.other (h : MB H k c w x) (h0 : q = 2 ∨ 4 ≤ q) (y : Blk) : MB (H.set q y) k c w x := ⟨blk_ne h.sh (by omega), blk_ne h.res (by omega), blk_ne h.m (by omega)⟩
theorem MB.lt (h : MB H k c w x) : 4 ≤ H.length := blk_lt h.m
end
theorem f_quoE {P : Program} {H : List Blk} {s n : Nat} {al : AL} {x y : Operand} {tx ty' : TypeId} {a b : Int} {e : Nat} (hx : evA n al x = wI a) (hy : evA n al y = wI b) (h0 : 0 ≤ a) (h1 : 0 < b) (h2 : a ≤ 9223372036854775807) (he : a / b = (e : Int)) : Val P H s n al (.binOp .quo tx x y ty') (wI e) := by
  rw [← he]; exact f_quo hx hy h0 h1 h2
theorem snap3 {lk : Nat → Option Blk} {x x' : D} {a b : Int} (h : snap lk 5 x = x') : [x, wI a, wI b].map (snap lk 5) = [x', wI a, wI b] := by
  rw [List.map_cons, h]; rfl
theorem MB.setM {H : List Blk} {k c w : Nat} {x : D} (h : MB H k c w x) (y : D) : MB (H.set 3 (.live 2 [[.ms 2 0 k k, y]])) k c w y :=
  ⟨blk_ne h.sh (by decide), blk_ne h.res (by decide), List.getElem?_set_self (blk_lt h.m)⟩
theorem filt_snoc {α : Type} (p : α → Bool) (f : α → Int) {l : List α} {i : Nat} (h : i < l.length) : ((l.take (i + 1)).filter p).map f = if p l[i] = true then ((l.take i).filter p).map f ++ [f l[i]] else ((l.take i).filter p).map f := by
  have e : l.take (i + 1) = l.take i ++ [l[i]] := by rw [List.take_add_one, List.getElem?_eq_getElem h]; rfl
  rw [e, List.filter_append, List.map_append]
  cases hp : p l[i] <;> simp [hp]
theorem snapR_mend {lk : Nat → Option Blk} {x y x' y' : D} {b : Bool} (hx : snapR lk 3 x = x') (hy : snapR lk 3 y = y') : snapR lk 5 (.tup [.agg [x, y], wB b]) = .tup [.agg [x', y'], wB b] := by
  rw [← hx, ← hy]; rfl
theorem m_mend {k c w e : Nat} {l : List Leaf} (hv : LvOk k c w l) (hkl : k ≤ l.length) (he : ((l.length : Int) - k) / 2 = (e : Int)) :
    (colsM k e l w = none → Maps Tryz.prog 81 [dSh ⟨k, c, w⟩, .sl (l.map eLeaf)] (.tup [.agg [.fl [], .fl []], wB false])) ∧
    ∀ cs wr, colsM k e l w = some cs → wr = wrongM (wholeL (k + c) w (rowsM cs k)) l (k + c) → Maps Tryz.prog 81 [dSh ⟨k, c, w⟩, .sl (l.map eLeaf)] (.tup [.agg [.fl ((rowsM cs k).map eRow), .fl (wr.map eI)], wB (decide (2 * (wr.length : Int) + k ≤ l.length))]) := by
  suffices h : ∀ r, r = (match colsM k e l w with | some cs => D.tup [.agg [.fl ((rowsM cs k).map eRow), .fl ((wrongM (wholeL (k + c) w (rowsM cs k)) l (k + c)).map eI)], wB (decide (2 * ((wrongM (wholeL (k + c) w (rowsM cs k)) l (k + c)).length : Int) + k ≤ l.length))] | none => .tup [.agg [.fl [], .fl []], wB false]) → Maps Tryz.prog 81 [dSh ⟨k, c, w⟩, .sl (l.map eLeaf)] r from
    ⟨fun hc => h _ (by rw [hc]), fun cs wr hc hw => h _ (by rw [hc, hw])⟩
  intro res hres
  have hk1 := hv.k1
  have hk2 := hv.k2
  have hw1 := hv.w1
  have hw2 := hv.w2
  have hll := hv.len
  have hke : k + 2 * e ≤ l.length := by omega
  change Maps Tryz.prog 81 [.agg [wI k, wI c, wI w], .sl (l.map eLeaf)] res
  refine Maps.vt pok Tryz.f81 (n := 128) (rs := [.cell 4 42, .tmp 5]) rfl rfl rfl rfl rfl rfl fun g => ?_
  repeat (any_goals (first | (refine d_RT ?_; (first | refine RT.nil ?_ | refine RT.v (f_quoE (e := e) rfl rfl (by omega) (by omega) (by omega) he) ?_ | refine RT.new rfl (f_make (z := [.nil]) (sz := 1) (m := k) (by' := 24) rfl rfl rfl rfl rfl (by decide) rfl rfl (by omega) (by omega)) rfl ?_ | (refine d_bld ?_; refine RT.v (f_build (d := .agg [.ms 2 0 k k, .nil]) rfl) ?_) | refine RT.mvA ?_ | refine RT.asA ?_ | refine RT.ldA ?_ | refine RT.faA ?_ | refine RT.bnA ?_ | refine RT.clA ?_ | refine RT.stA ?_ | refine RT.nwA ?_)) | (refine d_VT ?_; (first | refine VT.seq rfl ?_ | refine VT.reg rfl ?_ | refine VT.block rfl ?_))))
  refine VT.loop (fun jj a H g' => ∃ (j N : Nat) (cells : List D) (cs : List (List Int)), jj = w - j ∧ j ≤ w ∧ colsM k e l j = some cs ∧ MB H k c w .nil ∧ CS H 4 N 2 k cells (rowsM cs k) ∧ N ≤ H.length ∧ a = [(1, .sl (l.map eLeaf)), (2, .mp 0 0 0), (4, .mp 1 0 0), (6, wI e), (7, .mp 3 0 0), (29, wI w), (30, wI j)] ∧ g' = g) rfl
    ⟨_, _, [.live 3 [[wI k, wI c, wI w]], .live 2 [[.nil, .nil]], .live 1 (List.replicate k [.nil]), .live 2 [[.ms 2 0 k k, .nil]]], ⟨0, 4, List.replicate k .nil, [], rfl, Nat.zero_le _, rfl, ⟨rfl, rfl, rfl⟩, ?_, Nat.le_refl _, rfl, rfl⟩, Wk.keep (by (repeat first | exact True.intro | refine And.intro ?_ ?_ | exact Or.inr (Or.inl rfl) | exact Or.inl rfl | (refine DLe.i rfl ?_; omega) | (refine DLe.i rfl ?_; simp; done)))⟩ ?_
  · rw [rowsM_zero]
    have hn : ∀ i, (List.replicate k D.nil).getD i .nil = .nil := fun i => by
      simp only [List.getD_eq_getElem?_getD, List.getElem?_replicate]; split <;> rfl
    have hn2 : ∀ i, (List.replicate k ([] : List Int)).getD i [] = [] := fun i => by
      simp only [List.getD_eq_getElem?_getD, List.getElem?_replicate]; split <;> rfl
    refine ⟨?_, by simp, by simp, fun i hi => .inl ⟨hn i, hn2 i⟩, fun i p m hi h => (by rw [hn] at h; cases h), fun i j p m m' hi hj h => (by rw [hn] at h; cases h)⟩
    rw [List.map_replicate]; rfl
  rintro jj a H g' ⟨j, N, cells, cs, rfl, hj, hcs, hMB, hCS, hN, rfl, rfl⟩
  have h4 := hMB.lt
  by_cases hlj : j < w
  · repeat (any_goals (first | (refine d_RT ?_; (first | refine RT.nil ?_ | refine RT.mvA ?_ | refine RT.asA ?_ | refine RT.bnA ?_ | refine RT.clA ?_)) | (refine d_VT ?_; (first | refine VT.seq rfl ?_ | refine VT.reg rfl ?_ | refine VT.condY rfl rfl (by first | assumption | omega) ?_ | refine VT.block rfl ?_ | refine VT.skip rfl ?_))))
    refine VT.phantom (i := 9) (s := H.length) (H' := H ++ [.live 2 []]) 2 rfl rfl rfl ?_
    obtain ⟨N0, hN0⟩ : ∃ N0, N0 = H.length := ⟨_, rfl⟩
    rw [← hN0]
    refine VT.loop (fun jj a H1 g2 => ∃ (i b : Nat), jj = l.length - i ∧ i ≤ l.length ∧ MB H1 k c w .nil ∧ CS H1 4 N0 2 k cells (rowsM cs k) ∧ N0 ≤ b ∧ H1[b]? = some (.live 2 ((dotsL (l.take i) j).map eDot)) ∧ a = [(1, .sl (l.map eLeaf)), (2, .mp 0 0 0), (4, .mp 1 0 0), (6, wI e), (7, .mp 3 0 0), (29, wI w), (30, wI j), (8, wI j), (9, .ms b 0 i i), (33, .sl (l.map eLeaf)), (34, wI l.length), (35, wI i)] ∧ g2 = g') rfl
      ⟨_, _, H ++ [.live 2 []], ⟨0, N0, rfl, Nat.zero_le _, hMB.app _, (hCS.mono (by omega)).app _, Nat.le_refl _, by rw [hN0]; exact blk_at (t := 0) rfl rfl, rfl, rfl⟩, Wk.keep (by (repeat first | exact True.intro | refine And.intro ?_ ?_ | exact Or.inr (Or.inl rfl) | exact Or.inl rfl | (refine DLe.i rfl ?_; omega) | (refine DLe.i rfl ?_; simp; done)))⟩ ?_
    rw [hN0] at *
    clear hN0 N0
    rintro jj a H1 g2 ⟨i, b, rfl, hi, hMB1, hCS1, hb, hdots, rfl, rfl⟩
    have h41 := hMB1.lt
    have hbl := blk_lt hdots
    by_cases hlt : i < l.length
    · obtain ⟨hwl, hwW⟩ := hv.wl l[i] (List.getElem_mem hlt)
      have hmake : (H1 ++ [Blk.live 2 [[wI 0, .nil]]])[H1.length]? = some (.live 2 [[wI 0, .nil]]) := blk_at (t := 0) rfl rfl
      obtain ⟨H2, hH2⟩ : ∃ H2, H2 = H1 ++ [Blk.live 2 [eLeaf l[i]]] := ⟨_, rfl⟩
      have hleaf : H2[H1.length]? = some (.live 2 [eLeaf l[i]]) := by rw [hH2]; exact blk_at (t := 0) rfl rfl
      have hdots2 : H2[b]? = some (.live 2 ((dotsL (l.take i) j).map eDot)) := by rw [hH2]; exact blk_app _ hdots
      have hMB2 : MB H2 k c w .nil := by rw [hH2]; exact hMB1.app _
      have hCS2 : CS H2 4 H.length 2 k cells (rowsM cs k) := by rw [hH2]; exact hCS1.app _
      have hbl2 := blk_lt hdots2
      have hwj : l[i].Words.getD j 0 = l[i].Words[j]'(by omega) := by rw [List.getD_eq_getElem?_getD, List.getElem?_eq_getElem (by omega)]; rfl
      have hdl : (dotsL (l.take i) j).length = i := by rw [dotsL_len, List.length_take]; omega
      repeat (any_goals (first | (refine d_RT ?_; (first | refine RT.nil ?_ | refine RT.wr (f_stA rfl hmake rfl rfl rfl rfl rfl (by decide) rfl) ((setLen (i := 0) (T' := [.live 2 [eLeaf l[i]]]) rfl rfl).trans hH2.symm) ?_ | refine RT.mvA ?_ | refine RT.ldA ?_ | refine RT.bnA ?_ | refine RT.ixA ?_ | refine RT.nwA ?_)) | (refine d_VT ?_; (first | refine VT.seq rfl ?_ | refine VT.reg rfl ?_ | refine VT.draw [(2, [0, 1]), (2, [0, 1]), (2, [0, 1]), (2, [0, 1]), (2, [0, 1]), (2, [0, 1]), (2, [0, 1]), (2, [0, 1]), (2, [0, 1]), (0, [0, 1]), (1, [1]), (2, [])] 3 mixedOk rfl (by decide +kernel) (by decide +kernel) (by decide +kernel) (by first | (simp only [nrm]; rfl) | (simp only [nrm, Nat.reduceAdd, Nat.zero_add]; rfl) | rfl) (by first | (simp only [nrm]; rfl) | (simp only [nrm, Nat.reduceAdd, Nat.zero_add]; rfl) | rfl) ?_ | refine VT.condY rfl rfl (by first | assumption | omega) ?_ | refine VT.block rfl ?_ | refine VT.skip rfl ?_)) | (refine d_PT ?_; (first | refine PT.vI (by first | exact mask_app (H0 := H2) (T := [_, _, _]) rfl | exact mask_app' (H1 := H2.set b .dead) (T := [_, _, _]) (by simp) rfl) (f_ldO rfl (blk_app _ hleaf) rfl rfl rfl) ?_ | refine PT.vI (by first | exact mask_app (H0 := H2) (T := [_, _, _]) rfl | exact mask_app' (H1 := H2.set b .dead) (T := [_, _, _]) (by simp) rfl) (f_build (d := .agg (eDot (Dot.mk l[i].Number (l[i].Words[j]'(by omega))))) rfl) ?_ | refine PT.newI (by first | exact mask_app (H0 := H2) (T := [_, _, _]) rfl | exact mask_app' (H1 := H2.set b .dead) (T := [_, _, _]) (by simp) rfl) (s' := H2.length + 0) rfl (f_bsl (ps := [(0, .tmp 47)]) (sz := 2) (es := [eDot (Dot.mk l[i].Number (l[i].Words[j]'(by omega)))]) rfl) (setLen (i := 0) (T' := [.live 2 [eDot (Dot.mk l[i].Number (l[i].Words[j]'(by omega)))], .free, .free]) rfl rfl) ?_ | refine PT.apI (by first | exact mask_app (H0 := H2) (T := [_, _, _]) rfl | exact mask_app' (H1 := H2.set b .dead) (T := [_, _, _]) (by simp) rfl) (s' := H2.length + 1) rfl (f_appT (f := eDot) (o := dotsL (l.take i) j) (v := [(Dot.mk l[i].Number (l[i].Words[j]'(by omega)))]) (mm := i + 1) (by' := 16) rfl rfl (blk_app _ hdots2) (List.take_of_length_le (by rw [List.length_map, hdl]; exact Nat.le_refl _)) (by rw [List.length_map, hdl]; exact Nat.le_refl _) (blk_at (t := 0) rfl rfl) hdl.symm rfl (by rw [hdl]; rfl) rfl (by decide) rfl rfl (fun _ => ⟨rfl, rfl⟩) (by rw [hdl]; simp; omega) (by rw [hdl]; simp; omega)) (killLen (T' := [.live 2 [eDot (Dot.mk l[i].Number (l[i].Words[j]'(by omega)))], .live 2 ((dotsL (l.take i) j ++ [(Dot.mk l[i].Number (l[i].Words[j]'(by omega)))]).map eDot), .free]) hbl2 rfl rfl) ?_ | refine PT.done (dropLn (H2.set b .dead) [_, _] .free) ?_ | refine PT.mvI ((by first | exact mask_app (H0 := H2) (T := [_, _, _]) rfl | exact mask_app' (H1 := H2.set b .dead) (T := [_, _, _]) (by simp) rfl)) ?_ | refine PT.asI ((by first | exact mask_app (H0 := H2) (T := [_, _, _]) rfl | exact mask_app' (H1 := H2.set b .dead) (T := [_, _, _]) (by simp) rfl)) ?_ | refine PT.ldI ((by first | exact mask_app (H0 := H2) (T := [_, _, _]) rfl | exact mask_app' (H1 := H2.set b .dead) (T := [_, _, _]) (by simp) rfl)) ?_ | refine PT.faI ((by first | exact mask_app (H0 := H2) (T := [_, _, _]) rfl | exact mask_app' (H1 := H2.set b .dead) (T := [_, _, _]) (by simp) rfl)) ?_ | refine PT.ixI ((by first | exact mask_app (H0 := H2) (T := [_, _, _]) rfl | exact mask_app' (H1 := H2.set b .dead) (T := [_, _, _]) (by simp) rfl)) ?_)) | with_reducible (refine kLn ?_)))
      refine ⟨l.length - (i + 1), by omega, _, _, ⟨i + 1, H2.length + 1, rfl, hlt, (hMB2.other (by omega) _).app _, (hCS2.other (by omega) (by omega) _).app _, by omega, ?_, rfl, rfl⟩, Wk.keep (by (repeat first | exact True.intro | refine And.intro ?_ ?_ | exact Or.inr (Or.inl rfl) | exact Or.inl rfl | (refine DLe.i rfl ?_; omega) | (refine DLe.i rfl ?_; simp; done)))⟩
      rw [dotsL_snoc l j i hlt, hwj]
      exact blk_at (t := 1) (by simp) rfl
    · obtain rfl : i = l.length := by omega
      rw [List.take_length] at hdots
      have hsn : ([.ms b 0 l.length l.length, wI k, wI e] : List D).map (snap (fun b => H1[b]?) 5) = [.sl ((dotsL l j).map eDot), wI k, wI e] := by
        have h1 := snapDot (lk := fun b => H1[b]?) (cap := l.length) hdots
        rw [dotsL_len] at h1
        exact snap3 h1
      have hdec := m_decoded (k := k) (e := e) (ds := dotsL l j) (by rw [dotsL_len]; exact hke) (by rw [dotsL_len]; omega) (hv.dots hlj) (by rw [dotsL_num]; exact hv.ap)
      cases hcol : colM k e l j with
      | none =>
        have h66 := hdec.2 hcol
        rw [colsM_none (colsM_stop hcs hcol) w (by omega)] at hres
        repeat (any_goals (first | (refine d_RT ?_; (first | refine RT.nil ?_ | (refine d_call ?_; refine RT.callM rfl h66 hsn rfl ?_) | refine RT.v (f_ldO rfl hMB1.sh rfl rfl rfl) ?_ | (refine d_bld ?_; refine RT.v (f_build (d := .agg [.nil, .nil]) rfl) ?_) | refine RT.wr (f_stA rfl hMB1.res rfl rfl rfl rfl rfl (by decide) rfl) rfl ?_ | refine RT.v (f_ext (d := .any) rfl rfl) ?_ | refine RT.mvA ?_ | refine RT.asA ?_ | refine RT.faA ?_ | refine RT.bnA ?_ | refine RT.exA ?_ | refine RT.unA ?_)) | (refine d_VT ?_; (first | refine VT.seq rfl ?_ | refine VT.reg rfl ?_ | refine VT.condT rfl rfl ?_ | refine VT.condN rfl rfl (by first | assumption | omega) ?_ | refine VT.exit rfl ?_ | refine VT.ret rfl ?_)) | (with_reducible first | refine kSr ?_ | refine kBr ?_ | refine kLr ?_)))
        refine kEr (resA_cell (sz := 2) (e := [.nil, .nil]) rfl (List.getElem?_set_self (blk_lt hMB1.res)) rfl rfl rfl) ?_
        exact hres.symm
      | some col =>
        have h66 := hdec.1 col hcol
        repeat (any_goals (first | (refine d_RT ?_; (first | refine RT.nil ?_ | (refine d_call ?_; refine RT.callM rfl h66 hsn rfl ?_) | refine RT.v (f_ldO rfl hMB1.sh rfl rfl rfl) ?_ | refine RT.v (f_ldO rfl hMB1.m rfl rfl rfl) ?_ | refine RT.mvA ?_ | refine RT.asA ?_ | refine RT.faA ?_ | refine RT.bnA ?_ | refine RT.clA ?_ | refine RT.exA ?_ | refine RT.unA ?_)) | (refine d_VT ?_; (first | refine VT.seq rfl ?_ | refine VT.reg rfl ?_ | refine VT.condF rfl rfl ?_ | refine VT.condN rfl rfl (by first | assumption | omega) ?_ | refine VT.block rfl ?_ | refine VT.skip rfl ?_ | refine VT.exit rfl ?_))))
        have hgood := DM.decS_good hcol
        have hcl := hgood.len
        have hcW : allW col := hgood.W
        refine VT.loop (fun jj a H2 g3 => ∃ (i N : Nat) (cells : List D), jj = k - i ∧ i ≤ k ∧ MB H2 k c w .nil ∧ CS H2 4 N 2 k cells (rowsP cs col k i) ∧ N ≤ H2.length ∧ a = [(1, .sl (l.map eLeaf)), (2, .mp 0 0 0), (4, .mp 1 0 0), (6, wI e), (7, .mp 3 0 0), (29, wI w), (30, wI j), (12, .fl (col.map eI)), (64, wI k), (65, wI i)] ∧ g3 = g2) rfl
          ⟨_, _, H1, ⟨0, H.length, cells, rfl, Nat.zero_le _, hMB1, by rw [rowsP_zero]; exact hCS1, by omega, rfl, rfl⟩, Wk.keep (by (repeat first | exact True.intro | refine And.intro ?_ ?_ | exact Or.inr (Or.inl rfl) | exact Or.inl rfl | (refine DLe.i rfl ?_; omega) | (refine DLe.i rfl ?_; simp; done)))⟩ ?_
        clear hMB hCS hMB1 hCS1 hdots hbl hsn hdec h66 hb h41 hN h4 hres
        rintro jj a H2 g3 ⟨i, N2, cells2, rfl, hi2, hMB2, hCS2, hN2, rfl, rfl⟩
        have h42 := hMB2.lt
        by_cases hlt2 : i < k
        · have hval := m_value col ((i : Int) + 1) (by omega) hcW ⟨by omega, by omega⟩
          have hcell := hCS2.cell hlt2
          rcases hCS2.row i hlt2 with ⟨hc, hM⟩ | ⟨p, m, hc, hm, hp⟩
          · rw [hc] at hcell
            repeat (any_goals (first | (refine d_RT ?_; (first | refine RT.nil ?_ | refine RT.mvA ?_ | refine RT.asA ?_ | refine RT.bnA ?_)) | (refine d_VT ?_; (first | refine VT.drawS [2] 1 [none, none, none, none, none, none, none, none, none, none, none, none, none, none, none, some 0] [(4, [1, 2, 3, 4], none), (4, [1, 2, 3, 4], none), (4, [1, 2, 3, 4], none), (4, [1, 2, 3, 4], none), (4, [1, 2, 3, 4], none), (4, [1, 2, 3, 4], none), (4, [1, 2, 3, 4], none), (4, [1, 2, 3, 4], none), (4, [1, 2, 3, 4], none), (4, [1, 2, 3, 4], none), (4, [1, 2, 3, 4], none), (0, [1, 2, 3, 4], none), (1, [2, 3, 4], none), (2, [3, 4], none), (4, [4], none), (3, [4], some 0)] 5 rfl (by simp; omega) (by simp) mixedOk rfl (by decide +kernel) (by decide +kernel) (by decide +kernel) rfl (H1 := H2 ++ [.free, .free, .free, .free, .free]) rfl ?_ | refine VT.seq rfl ?_ | refine VT.reg rfl ?_ | refine VT.condY rfl rfl (by first | assumption | omega) ?_ | refine VT.block rfl ?_ | refine VT.skip rfl ?_)) | with_reducible (refine kLn ?_) | (refine d_ST ?_; (first | refine ST.v (f_ldO rfl (mskR (blk_app _ hMB2.m) (by first | (simp [rho, -List.length_eq_zero_iff]; done) | (simp [rho, -List.length_eq_zero_iff]; omega))) rfl rfl rfl) ?_ | refine ST.v (f_ixO0 (k := i) rfl rfl rfl (mskR (blk_app _ hCS2.rows) (by first | (simp [rho, -List.length_eq_zero_iff]; done) | (simp [rho, -List.length_eq_zero_iff]; omega))) rfl hlt2) ?_ | refine ST.v (f_ldO rfl (mskR (blk_app _ hCS2.rows) (by first | (simp [rho, -List.length_eq_zero_iff]; done) | (simp [rho, -List.length_eq_zero_iff]; omega))) hcell rfl rfl) ?_ | refine ST.callM rfl hval rfl rfl ?_ | refine ST.new rfl (s' := H2.length + 1) rfl (f_bslW1 rfl rfl rfl) (setLen (i := 1) (T' := [.free, .live 1 ([horner col ((i : Int) + 1)].map eI), .free, .free, .free]) rfl rfl) ?_ | refine ST.apN rfl (s' := H2.length + 2) rfl (f_appT0 (f := eI) (v := [horner col ((i : Int) + 1)]) (mm := 1) (by' := 8) rfl rfl (mskR (blk_at (t := 1) rfl rfl) (by first | (simp [rho, -List.length_eq_zero_iff]; done) | (simp [rho, -List.length_eq_zero_iff]; omega))) rfl rfl rfl (by decide) rfl rfl (fun _ => ⟨rfl, rfl⟩) (by simp) (by simp)) (setLen (i := 2) (T' := [.free, .live 1 ([horner col ((i : Int) + 1)].map eI), .live 1 ([horner col ((i : Int) + 1)].map eI), .free, .free]) rfl rfl) ?_ | refine ST.wr (q := 0) (b := 2) rfl rfl (f_stV rfl (mskR (blk_app _ hCS2.rows) (by first | (simp [rho, -List.length_eq_zero_iff]; done) | (simp [rho, -List.length_eq_zero_iff]; omega))) hcell rfl rfl rfl rfl) (List.set_append_left _ _ (by omega)) ?_ | refine ST.done (dropLn (H2.set 2 _) [_, _, _, _] .free) ?_ | refine ST.mvA ?_ | refine ST.faA ?_ | refine ST.bnA ?_))))
            refine ⟨k - (i + 1), by omega, _, _, ⟨i + 1, H2.length + 4, cells2.set i (.ms (H2.length + 2) 0 1 1), rfl, hlt2, (hMB2.other (by omega) _).app _, ?_, by simp, rfl, rfl⟩, Wk.keep (by (repeat first | exact True.intro | refine And.intro ?_ ?_ | exact Or.inr (Or.inl rfl) | exact Or.inl rfl | (refine DLe.i rfl ?_; omega) | (refine DLe.i rfl ?_; simp; done)))⟩
            rw [← rowsP_set cs col hlt2]
            exact hCS2.upd (H1 := H2) hN2 (by omega) h42 hlt2 rfl (fun _ _ _ _ _ _ => rfl) (t := 2) (m := 1) (by rw [hM]; rfl) (by rw [hM]; rfl)
          · rw [hc] at hcell
            have hpl := hCS2.lt i p m hlt2 hc
            have hmj : m ≤ 32 := by rw [hm, rowsP_get cs col hlt2, if_neg (Nat.lt_irrefl _), List.length_map, colsM_len hcs]; omega
            repeat (any_goals (first | (refine d_RT ?_; (first | refine RT.nil ?_ | refine RT.mvA ?_ | refine RT.asA ?_ | refine RT.bnA ?_)) | (refine d_VT ?_; (first | refine VT.drawS [p, 2] 2 [none, none, none, none, none, none, none, none, none, none, none, none, none, some 0, none, some 1] [(4, [2, 3, 4, 5, 0], none), (4, [2, 3, 4, 5, 0], none), (4, [2, 3, 4, 5, 0], none), (4, [2, 3, 4, 5], none), (4, [2, 3, 4, 5], none), (4, [2, 3, 4, 5], none), (4, [2, 3, 4, 5], none), (4, [2, 3, 4, 5], none), (4, [2, 3, 4, 5], none), (4, [2, 3, 4, 5], none), (4, [2, 3, 4, 5], none), (0, [2, 3, 4, 5], none), (1, [3, 4, 5], none), (2, [4, 5], some 0), (4, [5], none), (3, [5], some 1)] 5 rfl (by simp; omega) (by simp; omega) mixedOk rfl (by decide +kernel) (by decide +kernel) (by decide +kernel) rfl (H1 := H2 ++ [.free, .free, .free, .free, .free]) rfl ?_ | refine VT.seq rfl ?_ | refine VT.reg rfl ?_ | refine VT.condY rfl rfl (by first | assumption | omega) ?_ | refine VT.block rfl ?_ | refine VT.skip rfl ?_)) | with_reducible (refine kLn ?_) | (refine d_ST ?_; (first | refine ST.v (f_ldO rfl (mskR (blk_app _ hMB2.m) (by first | (simp [rho, -List.length_eq_zero_iff]; done) | (simp [rho, -List.length_eq_zero_iff]; omega))) rfl rfl rfl) ?_ | refine ST.v (f_ixO0 (k := i) rfl rfl rfl (mskR (blk_app _ hCS2.rows) (by first | (simp [rho, -List.length_eq_zero_iff]; done) | (simp [rho, -List.length_eq_zero_iff]; omega))) rfl hlt2) ?_ | refine ST.v (f_ixO0 (k := i) rfl rfl rfl (mskR (blk_app _ (blk_ne hCS2.rows (by omega))) (by first | (simp [rho, -List.length_eq_zero_iff]; done) | (simp [rho, -List.length_eq_zero_iff]; omega))) rfl hlt2) ?_ | refine ST.v (f_ldO rfl (mskR (blk_app _ hCS2.rows) (by first | (simp [rho, -List.length_eq_zero_iff]; done) | (simp [rho, -List.length_eq_zero_iff]; omega))) hcell rfl rfl) ?_ | refine ST.callM rfl hval rfl rfl ?_ | refine ST.new rfl (s' := H2.length + 1) rfl (f_bslW1 rfl rfl rfl) (setLen (i := 1) (T' := [.free, .live 1 ([horner col ((i : Int) + 1)].map eI), .free, .free, .free]) rfl rfl) ?_ | refine ST.ap (q := 0) (b := p) rfl rfl (s' := H2.length + 2) rfl (f_appT (f := eI) (o := (rowsP cs col k i).getD i []) (v := [horner col ((i : Int) + 1)]) (mm := m + 1) (by' := 8) rfl rfl (mskR (blk_app _ hp) (by first | (simp [rho, -List.length_eq_zero_iff]; done) | (simp [rho, -List.length_eq_zero_iff]; omega))) (List.take_of_length_le (by rw [List.length_map]; omega)) (by rw [List.length_map]; omega) (mskR (blk_at (t := 1) rfl rfl) (by first | (simp [rho, -List.length_eq_zero_iff]; done) | (simp [rho, -List.length_eq_zero_iff]; omega))) hm rfl (by rw [← hm]; rfl) rfl (by decide) rfl rfl (fun _ => ⟨rfl, rfl⟩) (by rw [← hm]; simp; omega) (by rw [← hm]; simp; omega)) (killLen (T' := [.free, .live 1 ([horner col ((i : Int) + 1)].map eI), .live 1 (((rowsP cs col k i).getD i [] ++ [horner col ((i : Int) + 1)]).map eI), .free, .free]) (blk_lt hp) rfl rfl) ?_ | refine ST.wr (q := 1) (b := 2) rfl rfl (f_stV rfl (mskR (blk_app _ (blk_ne hCS2.rows (by omega))) (by first | (simp [rho, -List.length_eq_zero_iff]; done) | (simp [rho, -List.length_eq_zero_iff]; omega))) hcell rfl rfl rfl rfl) (List.set_append_left _ _ (by rw [List.length_set]; omega)) ?_ | refine ST.done (dropLn ((H2.set p .dead).set 2 _) [_, _, _, _] .free) ?_ | refine ST.mvA ?_ | refine ST.faA ?_ | refine ST.bnA ?_))))
            refine ⟨k - (i + 1), by omega, _, _, ⟨i + 1, H2.length + 4, cells2.set i (.ms (H2.length + 2) 0 (m + 1) (m + 1)), rfl, hlt2, ((hMB2.other (by omega) _).other (by omega) _).app _, ?_, by simp, rfl, rfl⟩, Wk.keep (by (repeat first | exact True.intro | refine And.intro ?_ ?_ | exact Or.inr (Or.inl rfl) | exact Or.inl rfl | (refine DLe.i rfl ?_; omega) | (refine DLe.i rfl ?_; simp; done)))⟩
            rw [← rowsP_set cs col hlt2]
            exact hCS2.upd (H1 := H2.set p .dead) hN2 (by omega) h42 hlt2 (by simp) (fun j' p' m' hj' hne hc' => List.getElem?_set_ne fun e => hne (hCS2.nd j' i p' m' m hj' hlt2 hc' (by rw [hc, e]))) (t := 2) (m := m + 1) (by rw [hm]) rfl
        · obtain rfl : i = k := by omega
          rw [rowsP_all] at hCS2
          repeat (any_goals (first | (refine d_RT ?_; (first | refine RT.nil ?_ | refine RT.mvA ?_ | refine RT.bnA ?_)) | (refine d_VT ?_; (first | refine VT.seq rfl ?_ | refine VT.reg rfl ?_ | refine VT.condN rfl rfl (by first | assumption | omega) ?_ | refine VT.exit rfl ?_)) | with_reducible (refine kLn ?_)))
          exact ⟨w - (j + 1), by omega, _, _, ⟨j + 1, N2, cells2, cs ++ [col], rfl, hlj, colsM_next hcs hcol, hMB2, hCS2, hN2, rfl, rfl⟩, Wk.keep (by (repeat first | exact True.intro | refine And.intro ?_ ?_ | exact Or.inr (Or.inl rfl) | exact Or.inl rfl | (refine DLe.i rfl ?_; omega) | (refine DLe.i rfl ?_; simp; done)))⟩
  · obtain rfl : j = w := by omega
    rw [hcs] at hres
    dsimp only at hres
    have hc2 := hv.c2
    have hcl := colsM_len hcs
    have hne : ∀ i, i < k → (rowsM cs k).getD i [] ≠ [] := fun i hi e => by
      rw [rowsM_get cs hi] at e
      have := congrArg List.length e
      simp at this
      rw [this] at hcl; simp at hcl; omega
    have hwhole := m_whole ⟨k, c, j⟩ (rowsM cs k) (by refine ⟨⟨?_, ?_⟩, ⟨?_, ?_⟩, ⟨?_, ?_⟩⟩ <;> simp <;> (have := hv.c2; omega)) (by simpa using rowsM_dataW hk2 hcl)
    rw [show ((⟨k, c, j⟩ : Shape).Data + (⟨k, c, j⟩ : Shape).Checks).toNat = k + c from by simp; omega, show ((⟨k, c, j⟩ : Shape).Width).toNat = j from by simp] at hwhole
    have hRl : (wholeL (k + c) j (rowsM cs k)).length = k + c := by simp [wholeL]
    have hRw : ∀ x, x ∈ wholeL (k + c) j (rowsM cs k) → x.Words.length ≤ 1000 := fun x hx => by
      obtain ⟨i, _, rfl⟩ := List.mem_map.1 hx
      simp; omega
    generalize hRe : wholeL (k + c) j (rowsM cs k) = R at hres hwhole hRl hRw
    clear hRe
    repeat (any_goals (first | (refine d_RT ?_; (first | refine RT.nil ?_ | refine RT.v (f_ldOW rfl hMB.sh rfl rfl rfl rfl) ?_ | refine RT.v (f_ldO rfl hMB.m rfl rfl rfl) ?_ | (refine d_call ?_; refine RT.callM rfl hwhole (snap2 rfl (hCS.snap hne 3)) rfl ?_) | refine RT.mvA ?_ | refine RT.asA ?_ | refine RT.faA ?_ | refine RT.bnA ?_ | refine RT.clA ?_)) | (refine d_VT ?_; (first | refine VT.seq rfl ?_ | refine VT.reg rfl ?_ | refine VT.condN rfl rfl (by first | assumption | omega) ?_ | refine VT.block rfl ?_ | refine VT.exit rfl ?_))))
    refine VT.loop (fun jj a H2 g3 => ∃ (i : Nat) (W : D) (wr : List Int), jj = l.length - i ∧ i ≤ l.length ∧ MB H2 k c j W ∧ CS H2 4 H.length 2 k cells (rowsM cs k) ∧ H.length ≤ H2.length ∧ wr = ((l.take i).filter (badM R)).map Leaf.Number ∧ ((W = .nil ∧ wr = []) ∨ ∃ q m, W = .ms q 0 m m ∧ m = wr.length ∧ 1 ≤ m ∧ H2[q]? = some (.live 1 (wr.map eI)) ∧ H.length ≤ q) ∧ a = [(1, .sl (l.map eLeaf)), (2, .mp 0 0 0), (4, .mp 1 0 0), (7, .mp 3 0 0), (15, .fl (R.map eLeaf)), (89, .sl (l.map eLeaf)), (90, wI l.length), (91, wI i)] ∧ g3 = g') rfl
      ⟨_, _, H, ⟨0, .nil, [], rfl, Nat.zero_le _, hMB, hCS.mono hN, Nat.le_refl _, rfl, .inl ⟨rfl, rfl⟩, rfl, rfl⟩, Wk.keep (by (repeat first | exact True.intro | refine And.intro ?_ ?_ | exact Or.inr (Or.inl rfl) | exact Or.inl rfl | (refine DLe.i rfl ?_; omega) | (refine DLe.i rfl ?_; simp; done)))⟩ ?_
    clear hMB hCS
    rintro jj a H2 g3 ⟨i, W, wr, rfl, hi, hMB2, hCS2, hN2, hwr, hW, rfl, rfl⟩
    have h42 := hMB2.lt
    by_cases hlt : i < l.length
    · obtain ⟨hwl, hwW⟩ := hv.wl l[i] (List.getElem_mem hlt)
      obtain ⟨hn1, hn2⟩ := hv.num l[i] (List.getElem_mem hlt)
      obtain ⟨r, hr⟩ : ∃ r : Nat, l[i].Number - 1 = (r : Int) := ⟨(l[i].Number - 1).toNat, by omega⟩
      have hrR : r < R.length := by omega
      have hRr := hRw R[r] (List.getElem_mem hrR)
      have hbad : badM R l[i] = !decide (R[r].Words = l[i].Words) := by
        unfold badM
        rw [show (l[i].Number - 1).toNat = r by omega, List.getD_eq_getElem?_getD, List.getElem?_eq_getElem hrR]; rfl
      have hmake : (H2 ++ [Blk.live 2 [[wI 0, .nil]]])[H2.length]? = some (.live 2 [[wI 0, .nil]]) := blk_at (t := 0) rfl rfl
      obtain ⟨H3, hH3⟩ : ∃ H3, H3 = H2 ++ [Blk.live 2 [eLeaf l[i]]] := ⟨_, rfl⟩
      have hleaf : H3[H2.length]? = some (.live 2 [eLeaf l[i]]) := by rw [hH3]; exact blk_at (t := 0) rfl rfl
      have hMB3 : MB H3 k c j W := by rw [hH3]; exact hMB2.app _
      have hCS3 : CS H3 4 H.length 2 k cells (rowsM cs k) := by rw [hH3]; exact hCS2.app _
      have hl3 : H3.length = H2.length + 1 := by rw [hH3]; simp
      have heq := m_equal R[r].Words l[i].Words (by omega) (by omega)
      have hfs := filt_snoc (badM R) Leaf.Number hlt
      by_cases hb : R[r].Words = l[i].Words
      · rw [decide_eq_true hb] at heq hbad
        rw [if_neg (by rw [hbad]; decide), ← hwr] at hfs
        repeat (any_goals (first | (refine d_RT ?_; (first | refine RT.nil ?_ | refine RT.wr (f_stA rfl hmake rfl rfl rfl rfl rfl (by decide) rfl) ((setLen (i := 0) (T' := [.live 2 [eLeaf l[i]]]) rfl rfl).trans hH3.symm) ?_ | refine RT.mvA ?_ | refine RT.ldA ?_ | refine RT.bnA ?_ | refine RT.ixA ?_ | refine RT.nwA ?_)) | (refine d_VT ?_; (first | refine VT.seq rfl ?_ | refine VT.reg rfl ?_ | refine VT.draw [(0, []), (0, []), (0, []), (0, []), (0, []), (0, []), (0, []), (0, []), (0, []), (0, []), (0, [])] 1 mixedOk rfl (by decide +kernel) (by decide +kernel) (by decide +kernel) (by first | (simp only [nrm]; rfl) | (simp only [nrm, Nat.reduceAdd, Nat.zero_add]; rfl) | rfl) (by first | (simp only [nrm]; rfl) | (simp only [nrm, Nat.reduceAdd, Nat.zero_add]; rfl) | rfl) ?_ | refine VT.condF rfl rfl ?_ | refine VT.condY rfl rfl (by first | assumption | omega) ?_ | refine VT.block rfl ?_ | refine VT.skip rfl ?_)) | (refine d_PT ?_; (first | refine PT.vI (by exact mask_app (H0 := H3) (T := [_]) rfl) (f_ldO rfl (blk_app _ hleaf) rfl rfl rfl) ?_ | refine PT.vI (by exact mask_app (H0 := H3) (T := [_]) rfl) (f_ixL (l := R) (f := eLeaf) (k := r) rfl rfl hr hrR rfl rfl) ?_ | refine PT.done (dropLn H3 [] .free) ?_ | refine PT.mvI ((by exact mask_app (H0 := H3) (T := [_]) rfl)) ?_ | refine PT.ldI ((by exact mask_app (H0 := H3) (T := [_]) rfl)) ?_ | refine PT.faI ((by exact mask_app (H0 := H3) (T := [_]) rfl)) ?_ | refine PT.bnI ((by exact mask_app (H0 := H3) (T := [_]) rfl)) ?_ | refine PT.callI ((by exact mask_app (H0 := H3) (T := [_]) rfl)) rfl (heq) (by first | (simp only [nrm]; rfl) | (simp only [nrm, Nat.reduceAdd, Nat.zero_add]; rfl) | rfl) rfl ?_ | refine PT.unI ((by exact mask_app (H0 := H3) (T := [_]) rfl)) ?_)) | with_reducible (refine kLn ?_)))
        rw [List.append_nil]
        refine ⟨l.length - (i + 1), by omega, _, _, ⟨i + 1, W, wr, rfl, hlt, hMB3, hCS3, by omega, hfs.symm, ?_, rfl, rfl⟩, Wk.keep (by (repeat first | exact True.intro | refine And.intro ?_ ?_ | exact Or.inr (Or.inl rfl) | exact Or.inl rfl | (refine DLe.i rfl ?_; omega) | (refine DLe.i rfl ?_; simp; done)))⟩
        exact hW.imp id fun ⟨q, m, e1, e2, e3, e4, e5⟩ => ⟨q, m, e1, e2, e3, by rw [hH3]; exact blk_app _ e4, e5⟩
      · rw [decide_eq_false hb] at heq hbad
        rw [if_pos (by rw [hbad]; rfl), ← hwr] at hfs
        rcases hW with ⟨rfl, hwr0⟩ | ⟨q, m, rfl, hm, hm1, hq, hqN⟩
        · repeat (any_goals (first | (refine d_RT ?_; (first | refine RT.nil ?_ | refine RT.wr (f_stA rfl hmake rfl rfl rfl rfl rfl (by decide) rfl) ((setLen (i := 0) (T' := [.live 2 [eLeaf l[i]]]) rfl rfl).trans hH3.symm) ?_ | refine RT.v (f_ldO rfl hMB3.m rfl rfl rfl) ?_ | refine RT.v (f_ldO rfl hleaf rfl rfl rfl) ?_ | refine RT.new (s := H3.length) rfl (f_bslW1 rfl rfl rfl) (H' := H3 ++ [.live 1 ([l[i].Number].map eI)]) rfl ?_ | refine RT.ap (s := H3.length + 1) (by simp) (f_appT0 (f := eI) (v := [l[i].Number]) (mm := 1) (by' := 8) rfl rfl (blk_at (t := 0) rfl rfl) rfl rfl rfl (by decide) rfl rfl (fun _ => ⟨rfl, rfl⟩) (by simp) (by simp)) (H' := H3 ++ [.live 1 ([l[i].Number].map eI), .live 1 ([l[i].Number].map eI)]) (by simp [killO]) ?_ | refine RT.wr (f_st (d := .ms (H3.length + 1) 0 1 1) rfl (blk_app _ hMB3.m) rfl rfl rfl rfl rfl rfl (Nat.le_refl _) rfl) (List.set_append_left _ _ (by omega)) ?_ | refine RT.mvA ?_ | refine RT.ldA ?_ | refine RT.faA ?_ | refine RT.bnA ?_ | refine RT.ixA ?_ | refine RT.nwA ?_)) | (refine d_VT ?_; (first | refine VT.seq rfl ?_ | refine VT.reg rfl ?_ | refine VT.draw [(0, []), (0, []), (0, []), (0, []), (0, []), (0, []), (0, []), (0, []), (0, []), (0, []), (0, [])] 1 mixedOk rfl (by decide +kernel) (by decide +kernel) (by decide +kernel) (by first | (simp only [nrm]; rfl) | (simp only [nrm, Nat.reduceAdd, Nat.zero_add]; rfl) | rfl) (by first | (simp only [nrm]; rfl) | (simp only [nrm, Nat.reduceAdd, Nat.zero_add]; rfl) | rfl) ?_ | refine VT.condT rfl rfl ?_ | refine VT.condY rfl rfl (by first | assumption | omega) ?_ | refine VT.block rfl ?_ | refine VT.skip rfl ?_)) | (refine d_PT ?_; (first | refine PT.vI (by exact mask_app (H0 := H3) (T := [_]) rfl) (f_ldO rfl (blk_app _ hleaf) rfl rfl rfl) ?_ | refine PT.vI (by exact mask_app (H0 := H3) (T := [_]) rfl) (f_ixL (l := R) (f := eLeaf) (k := r) rfl rfl hr hrR rfl rfl) ?_ | refine PT.done ((dropLn H3 [] .free).trans (List.append_nil _)) ?_ | refine PT.mvI ((by exact mask_app (H0 := H3) (T := [_]) rfl)) ?_ | refine PT.ldI ((by exact mask_app (H0 := H3) (T := [_]) rfl)) ?_ | refine PT.faI ((by exact mask_app (H0 := H3) (T := [_]) rfl)) ?_ | refine PT.bnI ((by exact mask_app (H0 := H3) (T := [_]) rfl)) ?_ | refine PT.callI ((by exact mask_app (H0 := H3) (T := [_]) rfl)) rfl (heq) (by first | (simp only [nrm]; rfl) | (simp only [nrm, Nat.reduceAdd, Nat.zero_add]; rfl) | rfl) rfl ?_ | refine PT.unI ((by exact mask_app (H0 := H3) (T := [_]) rfl)) ?_)) | with_reducible (refine kLn ?_)))
          refine ⟨l.length - (i + 1), by omega, _, _, ⟨i + 1, .ms (H3.length + 1) 0 1 1, [l[i].Number], rfl, hlt, (hMB3.setM _).app _, (hCS3.other (by omega) (by omega) _).app _, by simp; omega, by rw [hfs, hwr0]; rfl, .inr ⟨_, _, rfl, rfl, Nat.le_refl _, blk_at (t := 1) (by simp) rfl, by omega⟩, rfl, rfl⟩, Wk.keep (by (repeat first | exact True.intro | refine And.intro ?_ ?_ | exact Or.inr (Or.inl rfl) | exact Or.inl rfl | (refine DLe.i rfl ?_; omega) | (refine DLe.i rfl ?_; simp; done)))⟩
        · have hq3 : H3[q]? = some (.live 1 (wr.map eI)) := by rw [hH3]; exact blk_app _ hq
          have hql := blk_lt hq3
          have hwl12 : wr.length ≤ 12 := by
            rw [hwr, List.length_map]
            have := List.length_filter_le (badM R) (l.take i)
            rw [List.length_take] at this; omega
          repeat (any_goals (first | (refine d_RT ?_; (first | refine RT.nil ?_ | refine RT.wr (f_stA rfl hmake rfl rfl rfl rfl rfl (by decide) rfl) ((setLen (i := 0) (T' := [.live 2 [eLeaf l[i]]]) rfl rfl).trans hH3.symm) ?_ | refine RT.v (f_ldO rfl hMB3.m rfl rfl rfl) ?_ | refine RT.v (f_ldO rfl hleaf rfl rfl rfl) ?_ | refine RT.new (s := H3.length) rfl (f_bslW1 rfl rfl rfl) (H' := H3 ++ [.live 1 ([l[i].Number].map eI)]) rfl ?_ | refine RT.ap (s := H3.length + 1) (by simp) (f_appT (f := eI) (o := wr) (v := [l[i].Number]) (mm := m + 1) (by' := 8) rfl rfl (blk_app _ hq3) (List.take_of_length_le (by rw [List.length_map]; omega)) (by rw [List.length_map]; omega) (blk_at (t := 0) rfl rfl) hm rfl (by rw [← hm]; rfl) rfl (by decide) rfl rfl (fun _ => ⟨rfl, rfl⟩) (by rw [← hm]; simp; omega) (by rw [← hm]; simp; omega)) (ap2 hql _ _) ?_ | refine RT.wr (f_st (d := .ms (H3.length + 1) 0 (m + 1) (m + 1)) rfl (blk_app _ (blk_ne hMB3.m (by omega))) rfl rfl rfl rfl rfl rfl (Nat.le_refl _) rfl) (List.set_append_left _ _ (by rw [List.length_set]; omega)) ?_ | refine RT.mvA ?_ | refine RT.ldA ?_ | refine RT.faA ?_ | refine RT.bnA ?_ | refine RT.ixA ?_ | refine RT.nwA ?_)) | (refine d_VT ?_; (first | refine VT.seq rfl ?_ | refine VT.reg rfl ?_ | refine VT.draw [(0, []), (0, []), (0, []), (0, []), (0, []), (0, []), (0, []), (0, []), (0, []), (0, []), (0, [])] 1 mixedOk rfl (by decide +kernel) (by decide +kernel) (by decide +kernel) (by first | (simp only [nrm]; rfl) | (simp only [nrm, Nat.reduceAdd, Nat.zero_add]; rfl) | rfl) (by first | (simp only [nrm]; rfl) | (simp only [nrm, Nat.reduceAdd, Nat.zero_add]; rfl) | rfl) ?_ | refine VT.condT rfl rfl ?_ | refine VT.condY rfl rfl (by first | assumption | omega) ?_ | refine VT.block rfl ?_ | refine VT.skip rfl ?_)) | (refine d_PT ?_; (first | refine PT.vI (by exact mask_app (H0 := H3) (T := [_]) rfl) (f_ldO rfl (blk_app _ hleaf) rfl rfl rfl) ?_ | refine PT.vI (by exact mask_app (H0 := H3) (T := [_]) rfl) (f_ixL (l := R) (f := eLeaf) (k := r) rfl rfl hr hrR rfl rfl) ?_ | refine PT.done ((dropLn H3 [] .free).trans (List.append_nil _)) ?_ | refine PT.mvI ((by exact mask_app (H0 := H3) (T := [_]) rfl)) ?_ | refine PT.ldI ((by exact mask_app (H0 := H3) (T := [_]) rfl)) ?_ | refine PT.faI ((by exact mask_app (H0 := H3) (T := [_]) rfl)) ?_ | refine PT.bnI ((by exact mask_app (H0 := H3) (T := [_]) rfl)) ?_ | refine PT.callI ((by exact mask_app (H0 := H3) (T := [_]) rfl)) rfl (heq) (by first | (simp only [nrm]; rfl) | (simp only [nrm, Nat.reduceAdd, Nat.zero_add]; rfl) | rfl) rfl ?_ | refine PT.unI ((by exact mask_app (H0 := H3) (T := [_]) rfl)) ?_)) | with_reducible (refine kLn ?_)))
          refine ⟨l.length - (i + 1), by omega, _, _, ⟨i + 1, .ms (H3.length + 1) 0 (m + 1) (m + 1), wr ++ [l[i].Number], rfl, hlt, ((hMB3.other (by omega) _).setM _).app _, ((hCS3.other (by omega) (by omega) _).other (by omega) (by omega) _).app _, by simp; omega, hfs.symm, .inr ⟨_, _, rfl, by simp [hm], by omega, blk_at (t := 1) (by simp) rfl, by omega⟩, rfl, rfl⟩, Wk.keep (by (repeat first | exact True.intro | refine And.intro ?_ ?_ | exact Or.inr (Or.inl rfl) | exact Or.inl rfl | (refine DLe.i rfl ?_; omega) | (refine DLe.i rfl ?_; simp; done)))⟩
    · obtain rfl : i = l.length := by omega
      rw [List.take_length] at hwr
      have hwl12 : wr.length ≤ 12 := by
        rw [hwr, List.length_map]
        have := List.length_filter_le (badM R) l; omega
      rcases hW with ⟨rfl, hwr0⟩ | ⟨q, m, rfl, hm, hm1, hq, hqN⟩
      · have hwe : ([] : List Int) = wrongM R l (k + c) := DM.wrong_eq Leaf.Number (badM R) hv.num List.Pairwise.nil (by rw [← hwr, hwr0])
        rw [← hwe] at hres
        repeat (any_goals (first | (refine d_RT ?_; (first | refine RT.nil ?_ | refine RT.v (f_ldO rfl hMB2.m rfl rfl rfl) ?_ | refine RT.faA ?_ | refine RT.bnA ?_ | refine RT.callM rfl (m_sort0) rfl rfl ?_)) | (refine d_VT ?_; (first | refine VT.drawS [1] 1 [none, none, none, none, none, none, none, none, none, none, none, some 0, none] [(1, [1], none), (1, [1, 0], none), (1, [1, 0], none), (1, [1, 0], none), (1, [1, 0], none), (1, [1, 0], none), (1, [1, 0], none), (1, [1, 0], none), (1, [1, 0], none), (1, [1, 0], none), (1, [1, 0], none), (0, [1], some 0), (1, [], none)] 2 rfl (by simp; omega) (by simp) mixedOk rfl (by decide +kernel) (by decide +kernel) (by decide +kernel) rfl (H1 := H2 ++ [.free, .free]) rfl ?_ | refine VT.seq rfl ?_ | refine VT.reg rfl ?_ | refine VT.condN rfl rfl (by first | assumption | omega) ?_ | refine VT.exit rfl ?_ | refine VT.ret rfl ?_)) | (refine d_ST ?_; (first | refine ST.v (f_ldO rfl (mskR (blk_app _ hMB2.m) (by first | (simp [rho, -List.length_eq_zero_iff]; done) | (simp [rho, -List.length_eq_zero_iff]; omega))) rfl rfl rfl) ?_ | refine ST.v (f_ldO rfl (mskR (blk_app _ hMB2.sh) (by first | (simp [rho, -List.length_eq_zero_iff]; done) | (simp [rho, -List.length_eq_zero_iff]; omega))) rfl rfl rfl) ?_ | refine ST.v (f_ldOW rfl (mskR (blk_app _ hMB2.m) (by first | (simp [rho, -List.length_eq_zero_iff]; done) | (simp [rho, -List.length_eq_zero_iff]; omega))) rfl rfl rfl rfl) ?_ | refine ST.wr (q := 0) (b := 1) rfl rfl (f_stA rfl (mskR (blk_app _ hMB2.res) (by first | (simp [rho, -List.length_eq_zero_iff]; done) | (simp [rho, -List.length_eq_zero_iff]; omega))) rfl rfl rfl rfl rfl (by decide) rfl) (List.set_append_left _ _ (by omega)) ?_ | refine ST.done (dropLn (H2.set 1 _) [_] .free) ?_ | refine ST.mvA ?_ | refine ST.asA ?_ | refine ST.faA ?_ | refine ST.bnA ?_ | refine ST.clA ?_))))
        refine kEr (resA_cell (sz := 2) (e := [.ms 2 0 k k, .nil]) rfl (blk_app _ (List.getElem?_set_self (blk_lt hMB2.res))) rfl rfl rfl) ?_
        have hs1 := ((hCS2.other (q := 1) (by omega) (by omega) (.live 2 [[.ms 2 0 k k, .nil]])).app [.free]).snapR hne 0
        exact (snapR_mend hs1 rfl).trans hres.symm
      · have hws : wrongM R l (k + c) = wrongM R l (k + c) := rfl
        repeat (any_goals (first | (refine d_RT ?_; (first | refine RT.nil ?_ | refine RT.v (f_ldO rfl hMB2.m rfl rfl rfl) ?_ | (refine d_call ?_; refine RT.callG rfl ((c_sort hq hm.symm hm1 (by omega)).mono ?_)) | refine RT.faA ?_ | refine RT.bnA ?_)) | (refine d_VT ?_; (first | refine VT.seq rfl ?_ | refine VT.reg rfl ?_ | refine VT.condN rfl rfl (by first | assumption | omega) ?_ | refine VT.exit rfl ?_))))
        rintro d H5 ⟨rfl, y, T, hy1, hy2, rfl⟩
        change RT _ _ _ _ ((116, D.tup []) :: _) _ _ _
        have hwe : y = wrongM R l (k + c) := DM.wrong_eq Leaf.Number (badM R) hv.num hy1 (by rw [← hwr]; exact hy2)
        have hyl : m = y.length := by rw [hm]; exact hy2.length_eq.symm
        rw [← hwe, ← hyl] at hres
        have hMB5 := (hMB2.other (q := q) (by omega) (.live 1 (y.map eI))).app T
        have hCS5 := (hCS2.other (q := q) (by omega) (by omega) (.live 1 (y.map eI))).app T
        have hq5 : (H2.set q (.live 1 (y.map eI)) ++ T)[q]? = some (.live 1 (y.map eI)) := blk_app _ (List.getElem?_set_self (blk_lt hq))
        generalize H2.set q (.live 1 (y.map eI)) ++ T = H5 at hMB5 hCS5 hq5 ⊢
        have h45 := hMB5.lt
        repeat (any_goals (first | refine RT.nil ?_ | (refine d_VT ?_; (first | refine VT.drawS [1] 1 [none, none, none, none, none, none, none, none, none, none, none, some 0, none] [(1, [1], none), (1, [1, 0], none), (1, [1, 0], none), (1, [1, 0], none), (1, [1, 0], none), (1, [1, 0], none), (1, [1, 0], none), (1, [1, 0], none), (1, [1, 0], none), (1, [1, 0], none), (1, [1, 0], none), (0, [1], some 0), (1, [], none)] 2 rfl (by simp; omega) (by simp) mixedOk rfl (by decide +kernel) (by decide +kernel) (by decide +kernel) rfl (H1 := H5 ++ [.free, .free]) rfl ?_ | refine VT.seq rfl ?_ | refine VT.ret rfl ?_)) | (refine d_ST ?_; (first | refine ST.v (f_ldO rfl (mskR (blk_app _ hMB5.m) (by first | (simp [rho, -List.length_eq_zero_iff]; done) | (simp [rho, -List.length_eq_zero_iff]; omega))) rfl rfl rfl) ?_ | refine ST.v (f_ldO rfl (mskR (blk_app _ hMB5.sh) (by first | (simp [rho, -List.length_eq_zero_iff]; done) | (simp [rho, -List.length_eq_zero_iff]; omega))) rfl rfl rfl) ?_ | refine ST.v (f_ldOW rfl (mskR (blk_app _ hMB5.m) (by first | (simp [rho, -List.length_eq_zero_iff]; done) | (simp [rho, -List.length_eq_zero_iff]; omega))) rfl rfl rfl rfl) ?_ | refine ST.wr (q := 0) (b := 1) rfl rfl (f_stA rfl (mskR (blk_app _ hMB5.res) (by first | (simp [rho, -List.length_eq_zero_iff]; done) | (simp [rho, -List.length_eq_zero_iff]; omega))) rfl rfl rfl rfl rfl (by decide) rfl) (List.set_append_left _ _ (by omega)) ?_ | refine ST.done (dropLn (H5.set 1 _) [_] .free) ?_ | refine ST.mvA ?_ | refine ST.asA ?_ | refine ST.faA ?_ | refine ST.bnA ?_ | refine ST.clA ?_))))
        refine kEr (resA_cell (sz := 2) (e := [.ms 2 0 k k, .ms q 0 m m]) rfl (blk_app _ (List.getElem?_set_self (blk_lt hMB5.res))) rfl rfl rfl) ?_
        have hs1 := ((hCS5.other (q := 1) (by omega) (by omega) (.live 2 [[.ms 2 0 k k, .ms q 0 m m]])).app [.free]).snapR hne 0
        exact (snapR_mend hs1 (snapRW (k := 2) (blk_app _ (blk_ne hq5 (by omega))) hyl)).trans hres.symm
end Go.DL
