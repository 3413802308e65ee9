/- All leaves of data. -/
import Derived.Test.YtmbbepdbjeciaaaGreatZx
import Derived.Test.YtmbbepdbjeciaaaGreatZj
import Derived.Test.YtmbbepdbjeciaaaGreatE11
set_option linter.all false
set_option maxRecDepth 100000
set_option maxHeartbeats 16000000
namespace Go.DL
open Go.Proofs Go

/-- The points of a place of data. -/
def dotsC (d : List (List Int)) (j k : Nat) : List Dot := (List.range k).map fun i : Nat => ⟨(i : Int) + 1, (d.getD i []).getD j 0⟩
theorem dotsC_len (d : List (List Int)) (j k : Nat) : (dotsC d j k).length = k := by simp [dotsC]
theorem dotsC_succ (d : List (List Int)) (j k : Nat) : dotsC d j (k + 1) = dotsC d j k ++ [⟨(k : Int) + 1, (d.getD k []).getD j 0⟩] := by simp [dotsC, List.range_succ]
/-- The polynomial of a place of data. -/
def colS (d : List (List Int)) (j : Nat) : List Int := DM.through (dX (dotsC d j d.length)) (dY (dotsC d j d.length))
def pseq (w : Nat) (d : List (List Int)) : List (List D) := (List.range w).map fun j : Nat => [wI j, .fl ((colS d j).map eI)]
theorem pseq_len (w : Nat) (d : List (List Int)) : (pseq w d).length = w := by simp [pseq]
theorem pseq_get {w : Nat} (d : List (List Int)) {j : Nat} (h : j < w) : (pseq w d)[j]? = some [wI j, .fl ((colS d j).map eI)] := by
  simp [pseq, h]
/-- Rows of words of a width. -/
def dataW (w : Nat) (d : List (List Int)) : Prop := d.length ≤ 20 ∧ ∀ r, r ∈ d → r.length = w ∧ allW r
theorem dotsC_W {w : Nat} {d : List (List Int)} (h : dataW w d) {j : Nat} (hj : j < w) : dotW (dotsC d j d.length) := fun p hp => by
  obtain ⟨i, hi, rfl⟩ := List.mem_map.1 hp
  rw [List.mem_range] at hi
  have h1 := h.1
  obtain ⟨h2, h3⟩ := h.2 d[i] (List.getElem_mem hi)
  have e : (d.getD i []).getD j 0 = d[i][j] := by simp [List.getD, hi, h2, hj]
  refine ⟨by simp only; omega, ?_⟩
  simp only [e]
  exact h3 _ (List.getElem_mem _)
theorem c_places {H : List Blk} (s : Shape) (d : List (List Int)) : CallSp Tryz.prog 126 [dSh s, .sl (d.map eRow)] H fun x H' => x = .fn (.func 163) [] [.mp H.length 0 0, .mp (H.length + 1) 0 0] ∧ H' = H ++ [.live 3 [eShape s], .live 1 [[.sl (d.map eRow)]]] := by
  refine CallSp.vt pok Tryz.f126 (n := 6) (rs := [.tmp 4]) rfl rfl rfl rfl rfl rfl rfl fun g => ?_
  repeat (any_goals (first | (refine d_RT ?_; (first | refine RT.nil ?_ | refine RT.asA ?_ | refine RT.nwA ?_ | refine RT.msA ?_)) | (refine d_VT ?_; (first | refine VT.seq rfl ?_ | refine VT.reg rfl ?_ | refine VT.ret rfl ?_)) | (with_reducible refine d_kEr ?_; refine kEr rfl ?_)))
  refine ⟨?_, ?_⟩
  · show D.fn (.func 163) [] [.mp H.length 0 0, .mp (H ++ [_]).length 0 0] = _
    rw [List.length_append]; rfl
  · show (H ++ [_]) ++ [_] = _
    rw [List.append_assoc]; rfl
theorem i_places (s : Shape) (w : Nat) (hw : s.Width = (w : Int)) (d : List (List Int)) (hd : dataW w d) (hwb : w ≤ 1000) : Iter Tryz.prog 163 [] [.rp (eShape s), .rp [.sl (d.map eRow)]] (pseq w d) := by
  refine Iter.vt pok Tryz.f163 (n := 38) rfl rfl rfl rfl (fun _ => rfl) rfl fun y => ?_
  have hdl := hd.1
  repeat (any_goals (first | (refine d_RT ?_; (first | refine RT.nil ?_ | refine RT.v (f_fa2 rfl rfl (Nat.succ_ne_zero _)) ?_ | refine RT.mvA ?_ | refine RT.ldA ?_)) | (refine d_VT ?_; (first | refine VT.seq rfl ?_ | refine VT.reg rfl ?_ | refine VT.block rfl ?_))))
  refine VT.loop (fun j a H g' => ∃ i : Nat, j = w - i ∧ i ≤ w ∧ a = [(0, .fn (.yield y) [] []), (1, .rp (eShape s)), (2, .rp [.sl (d.map eRow)]), (9, wI w), (10, wI i)] ∧ H = [] ∧ g' = (i, false)) rfl
    ⟨_, _, _, ⟨0, rfl, Nat.zero_le _, rfl, rfl, rfl⟩, Wk.fg ⟨by (repeat first | exact True.intro | refine And.intro ?_ ?_ | exact Or.inr (Or.inl rfl) | exact Or.inl rfl | (refine DLe.i rfl ?_; omega) | (refine DLe.i rfl ?_; simp; done)), rfl, (by first | decide | exact Nat.zero_le _ | exact Nat.le_refl _ | (first | omega | (simp only [List.length_set, List.length_replicate, List.length_append, List.length_map, List.length_cons, List.length_nil]; omega))), (by first | rfl | simp_all [lowB]), by (repeat first | exact bb_nil | refine bb_cons ?_ ?_ | exact eI_low _ _ | exact outW_low (by simp) | exact eDot_low _ _ | exact bb_dead | exact bb_free | exact bb_lit rfl | (simp [BlkBelow, lowB]; done))⟩⟩ ?_
  rintro j a H g' ⟨i, rfl, hi, rfl, rfl, rfl⟩
  by_cases hlt : i < w
  · repeat (any_goals (first | (refine d_RT ?_; (first | refine RT.nil ?_ | refine RT.mvA ?_ | refine RT.asA ?_ | refine RT.ldA ?_ | refine RT.bnA ?_ | refine RT.clA ?_)) | (refine d_VT ?_; (first | refine VT.seq rfl ?_ | refine VT.reg rfl ?_ | refine VT.condY rfl rfl (by first | assumption | omega) ?_ | refine VT.block rfl ?_ | refine VT.skip rfl ?_))))
    refine VT.phantom (i := 5) (s := 0) (H' := [.live 2 []]) 2 rfl rfl rfl ?_
    refine VT.loop (fun j a H g2 => ∃ (k : Nat) (o : List Dot), j = d.length - k ∧ k ≤ d.length ∧ o = dotsC d i k ∧ a = [(0, .fn (.yield y) [] []), (1, .rp (eShape s)), (2, .rp [.sl (d.map eRow)]), (9, wI w), (10, wI i), (4, wI i), (5, .ms 0 0 o.length o.length), (13, .sl (d.map eRow)), (14, wI d.length), (15, wI k)] ∧ H = [.live 2 (o.map eDot)] ∧ g2 = (i, false)) rfl
      ⟨_, _, _, ⟨0, [], rfl, Nat.zero_le _, rfl, rfl, rfl, rfl⟩, Wk.fg ⟨by (repeat first | exact True.intro | refine And.intro ?_ ?_ | exact Or.inr (Or.inl rfl) | exact Or.inl rfl | (refine DLe.i rfl ?_; omega) | (refine DLe.i rfl ?_; simp; done)), rfl, (by first | decide | exact Nat.zero_le _ | exact Nat.le_refl _ | (first | omega | (simp only [List.length_set, List.length_replicate, List.length_append, List.length_map, List.length_cons, List.length_nil]; omega))), (by first | rfl | simp_all [lowB]), by (repeat first | exact bb_nil | refine bb_cons ?_ ?_ | exact eI_low _ _ | exact outW_low (by simp) | exact eDot_low _ _ | exact bb_dead | exact bb_free | exact bb_lit rfl | (simp [BlkBelow, lowB]; done))⟩⟩ ?_
    rintro j a H g2 ⟨k, o, rfl, hk, ho, rfl, rfl, rfl⟩
    have hol : o.length = k := by rw [ho, dotsC_len]
    by_cases hlt2 : k < d.length
    · have hrow := (hd.2 d[k] (List.getElem_mem hlt2)).1
      have hi2 : i < d[k].length := by omega
      repeat (any_goals (first | (refine d_RT ?_; (first | refine RT.nil ?_ | (refine d_bld ?_; refine RT.v (f_build (d := .agg [wI ((k : Int) + 1), wI d[k][i]]) rfl) ?_) | refine RT.new (by first | (simp only [nrm]; rfl) | (simp only [nrm, Nat.reduceAdd, Nat.zero_add]; rfl) | rfl) (f_bsl (ps := [(0, .tmp 27)]) (sz := 2) (es := [eDot ⟨(k : Int) + 1, d[k][i]⟩]) rfl) (by first | (simp only [nrm]; rfl) | (simp only [nrm, Nat.reduceAdd, Nat.zero_add]; rfl) | rfl) ?_ | refine RT.ap (by first | (simp only [nrm]; rfl) | (simp only [nrm, Nat.reduceAdd, Nat.zero_add]; rfl) | rfl) (f_appG (f := eDot) (o := o) (v := [⟨(k : Int) + 1, d[k][i]⟩]) (by' := 16) rfl rfl rfl rfl rfl rfl rfl (by decide) rfl rfl (fun _ => ⟨rfl, rfl⟩) (by rw [hol]; simp; omega) (by rw [hol]; simp; omega)) (by first | (simp only [nrm]; rfl) | (simp only [nrm, Nat.reduceAdd, Nat.zero_add]; rfl) | rfl) ?_ | refine RT.mvA ?_ | refine RT.asA ?_ | refine RT.ldA ?_ | refine RT.bnA ?_ | refine RT.ixA ?_)) | (refine d_VT ?_; (first | refine VT.seq rfl ?_ | refine VT.reg rfl ?_ | refine VT.condY rfl rfl (by first | assumption | omega) ?_ | refine VT.block rfl ?_ | refine VT.skip rfl ?_)) | with_reducible (refine kLn ?_)))
      refine ⟨d.length - (k + 1), by omega, _, _, ⟨k + 1, o ++ [⟨(k : Int) + 1, d[k][i]⟩], rfl, hlt2, ?_, rfl, rfl, rfl⟩, (Wk.mv (k := 2) (s := 0) (a' := [(0, .fn (.yield y) [] []), (1, .rp (eShape s)), (2, .rp [.sl (d.map eRow)]), (9, wI w), (10, wI i), (4, wI i), (5, .ms 0 0 (o ++ [Dot.mk ((k : Int) + 1) d[k][i]]).length (o ++ [Dot.mk ((k : Int) + 1) d[k][i]]).length), (13, .sl (d.map eRow)), (14, wI d.length), (15, wI (k + 1 : Nat))]) rfl rfl rfl (by first | decide | exact Nat.zero_le _) (by first | decide | exact Nat.zero_le _) (by (repeat first | exact True.intro | refine And.intro ?_ ?_ | exact Or.inr (Or.inr (Or.inl ⟨_, _, _, rfl, rfl⟩)) | exact Or.inr (Or.inl ⟨rfl, rfl⟩) | exact Or.inl rfl)) (by (repeat first | exact bn_nil | refine bn_cons ?_ ?_ | exact eI_no _ _ _ | exact eDot_no _ _ _ | exact bn_dead | exact bn_free | exact bn_lit rfl)) (by first | (simp only [nrm]; rfl) | (simp only [nrm, Nat.reduceAdd, Nat.zero_add]; rfl) | rfl)).trans <| Wk.fg ⟨by (repeat first | exact True.intro | refine And.intro ?_ ?_ | exact Or.inr (Or.inl rfl) | exact Or.inl rfl | (refine DLe.i rfl ?_; omega) | (refine DLe.i rfl ?_; simp; done)), rfl, (by first | decide | exact Nat.zero_le _ | exact Nat.le_refl _ | (first | omega | (simp only [List.length_set, List.length_replicate, List.length_append, List.length_map, List.length_cons, List.length_nil]; omega))), (by first | rfl | simp_all [lowB]), by (repeat first | exact bb_nil | refine bb_cons ?_ ?_ | exact eI_low _ _ | exact outW_low (by simp) | exact eDot_low _ _ | exact bb_dead | exact bb_free | exact bb_lit rfl | (simp [BlkBelow, lowB]; done))⟩⟩
      rw [ho, dotsC_succ]
      simp [List.getD, hlt2, hi2]
    · obtain rfl : k = d.length := by omega
      have ht := m_through o (by omega) (by rw [ho]; exact dotsC_W hd hlt)
      have e : DM.through (dX o) (dY o) = colS d i := by rw [ho]; rfl
      rw [e] at ht
      repeat (any_goals (first | (refine d_RT ?_; (first | refine RT.nil ?_ | refine RT.callM rfl ht (by rw [List.map_cons, List.map_nil]; exact congrArg (fun d => [d]) (snapDot rfl)) rfl ?_ | refine RT.yield rfl ⟨rfl, i, rfl, pseq_get d hlt, ?_, ?_⟩ | refine RT.mvA ?_ | refine RT.bnA ?_ | refine RT.unA ?_)) | (refine d_VT ?_; (first | refine VT.seq rfl ?_ | refine VT.reg rfl ?_ | refine VT.condT rfl rfl ?_ | refine VT.condF rfl rfl ?_ | refine VT.condN rfl rfl (by first | assumption | omega) ?_ | refine VT.skip rfl ?_ | refine VT.exit rfl ?_ | refine VT.ret rfl ?_)) | (with_reducible first | refine kSr ?_ | refine kBr ?_ | refine kLn ?_ | refine kLr ?_) | (with_reducible refine d_kEr ?_; refine kEr rfl ?_)))
      · exact ⟨w - (i + 1), by omega, _, _, ⟨i + 1, rfl, hlt, rfl, rfl, rfl⟩, Wk.fg ⟨by (repeat first | exact True.intro | refine And.intro ?_ ?_ | exact Or.inr (Or.inl rfl) | exact Or.inl rfl | (refine DLe.i rfl ?_; omega) | (refine DLe.i rfl ?_; simp; done)), rfl, (by first | decide | exact Nat.zero_le _ | exact Nat.le_refl _ | (first | omega | (simp only [List.length_set, List.length_replicate, List.length_append, List.length_map, List.length_cons, List.length_nil]; omega))), (by first | rfl | simp_all [lowB]), by (repeat first | exact bb_nil | refine bb_cons ?_ ?_ | exact eI_low _ _ | exact outW_low (by simp) | exact eDot_low _ _ | exact bb_dead | exact bb_free | exact bb_lit rfl | (simp [BlkBelow, lowB]; done))⟩⟩
      · exact .inr rfl
  · repeat (any_goals (first | (refine d_RT ?_; (first | refine RT.nil ?_ | refine RT.bnA ?_)) | (refine d_VT ?_; (first | refine VT.seq rfl ?_ | refine VT.reg rfl ?_ | refine VT.condN rfl rfl (by first | assumption | omega) ?_ | refine VT.exit rfl ?_)) | (with_reducible first | refine kSe ?_ | refine kBe ?_ | refine kLe ?_) | (with_reducible refine d_kEn ?_; refine kEn rfl ?_)))
    exact .inl (by rw [pseq_len]; exact congrArg (·, false) (by omega))
/-- The leaves that are laid so far. -/
def outW (N w k : Nat) : List (List D) := (List.range k).map (fun i : Nat => [wI ((i : Int) + 1), .ms (i + 3) 0 w w]) ++ List.replicate (N - k) [wI 0, .nil]
theorem outW_low {N w k K : Nat} (h : k + 3 ≤ K) : BlkBelow K (.live 2 (outW N w k)) := by
  intro e he x hx
  rcases List.mem_append.1 he with h1 | h1
  · obtain ⟨i, hi, rfl⟩ := List.mem_map.1 h1
    rw [List.mem_range] at hi
    simp only [List.mem_cons, List.not_mem_nil, or_false] at hx
    rcases hx with rfl | rfl
    · rfl
    · simp [lowB]; omega
  · obtain rfl := (List.mem_replicate.1 h1).2
    simp only [List.mem_cons, List.not_mem_nil, or_false] at hx
    rcases hx with rfl | rfl <;> rfl
theorem snap_box {lk : Nat → Option Blk} {b sz : Nat} {e : List D} (h : lk b = some (.live sz [e])) (he : e.map (snap lk 4) = e) : snap lk 5 (.mp b 0 0) = .rp e := by
  simp only [snap, h, List.getElem?_cons_zero, List.drop_zero, he]
/-- All leaves. -/
def wholeL (N w : Nat) (d : List (List Int)) : List Leaf := (List.range N).map fun i : Nat => ⟨(i : Int) + 1, (List.range w).map fun q : Nat => horner (colS d q) ((i : Int) + 1)⟩
/-- What a row holds when j places, and beside these the first r rows of the next one, are written. -/
def rowF (d : List (List Int)) (w i j r : Nat) : List Int := (List.range w).map fun q : Nat => if q < j ∨ (q = j ∧ i < r) then horner (colS d q) ((i : Int) + 1) else 0
theorem rowF_len (d : List (List Int)) (w i j r : Nat) : (rowF d w i j r).length = w := by simp [rowF]
def wsF (d : List (List Int)) (N w j r : Nat) : List Blk := (List.range N).map fun i : Nat => Blk.live 1 ((rowF d w i j r).map eI)
theorem wsF_len (d : List (List Int)) (N w j r : Nat) : (wsF d N w j r).length = N := by simp [wsF]
theorem wsF_get (d : List (List Int)) {N w j r i : Nat} (h : i < N) : (wsF d N w j r)[i]? = some (.live 1 ((rowF d w i j r).map eI)) := by simp [wsF, h]
theorem wsF_zero (d : List (List Int)) (N w : Nat) : wsF d N w 0 0 = List.replicate N (.live 1 ((List.replicate w 0).map eI)) := by
  have e : ∀ i, rowF d w i 0 0 = List.replicate w 0 := fun i => by simp [rowF, List.map_const']
  simp only [wsF, e, List.map_const', List.length_range]
theorem wsF_next (d : List (List Int)) (N w j : Nat) : wsF d N w j N = wsF d N w (j + 1) 0 := by
  refine List.map_congr_left fun i hi => ?_
  rw [List.mem_range] at hi
  have e : rowF d w i j N = rowF d w i (j + 1) 0 := List.map_congr_left fun q _ => by
    by_cases h : q < j ∨ q = j ∧ i < N
    · rw [if_pos h, if_pos (by omega)]
    · rw [if_neg h, if_neg (by omega)]
  rw [e]
theorem wsF_set (d : List (List Int)) {N w j i : Nat} (hi : i < N) (hj : j < w) : (wsF d N w j i).set i (.live 1 (((rowF d w i j i).set j (horner (colS d j) ((i : Int) + 1))).map eI)) = wsF d N w j (i + 1) := by
  refine List.ext_getElem (by simp [wsF]) fun m h1 h2 => ?_
  rw [List.getElem_set]
  simp only [wsF, List.getElem_map, List.getElem_range]
  by_cases hm : i = m
  · subst hm
    rw [if_pos rfl]
    have e : (rowF d w i j i).set j (horner (colS d j) ((i : Int) + 1)) = rowF d w i j (i + 1) := by
      refine List.ext_getElem (by simp [rowF]) fun q h3 h4 => ?_
      rw [List.getElem_set]
      simp only [rowF, List.getElem_map, List.getElem_range]
      by_cases hq : j = q
      · subst hq
        rw [if_pos rfl, if_pos (by omega)]
      · rw [if_neg hq]
        by_cases h : q < j ∨ q = j ∧ i < i
        · rw [if_pos h, if_pos (by omega)]
        · rw [if_neg h, if_neg (by omega)]
    rw [e]
  · rw [if_neg hm]
    have e : rowF d w m j i = rowF d w m j (i + 1) := List.map_congr_left fun q _ => by
      by_cases h : q < j ∨ q = j ∧ m < i
      · rw [if_pos h, if_pos (by omega)]
      · rw [if_neg h, if_neg (by omega)]
    rw [e]
theorem wsF_low (d : List (List Int)) (N w j r : Nat) (T : List Blk) (hT : ∀ b, b ∈ T → BlkBelow 0 b) : ∀ b, b ∈ wsF d N w j r ++ T → BlkBelow 0 b := fun b hb => by
  rcases List.mem_append.1 hb with h | h
  · obtain ⟨i, _, rfl⟩ := List.mem_map.1 h
    exact eI_low _ _
  · exact hT b h
theorem dead2 : ∀ b, b ∈ [Blk.dead, .dead] → BlkBelow 0 b := fun b hb => by
  simp only [List.mem_cons, List.not_mem_nil, or_false, or_self] at hb
  subst hb; trivial
theorem outW_get {N w i : Nat} (h : i < N) : (outW N w N)[i]? = some [wI ((i : Int) + 1), .ms (i + 3) 0 w w] := by
  rw [outW, List.getElem?_append_left (by simpa using h)]; simp [h]
theorem rowF_last (d : List (List Int)) (w i : Nat) : rowF d w i w 0 = (List.range w).map fun q : Nat => horner (colS d q) ((i : Int) + 1) :=
  List.map_congr_left fun q hq => by
    rw [List.mem_range] at hq
    rw [if_pos (Or.inl hq)]
theorem snapR_leaves {lk : Nat → Option Blk} {N w : Nat} {d : List (List Int)} (h1 : lk 1 = some (.live 2 (outW N w N))) (h2 : ∀ i, i < N → lk (i + 3) = some (.live 1 ((rowF d w i w 0).map eI))) :
    snapR lk 5 (.ms 1 0 N N) = .fl ((wholeL N w d).map eLeaf) := by
  have hl : (outW N w N).length = N := by simp [outW]
  have e0 : outW N w N = (List.range N).map (fun i : Nat => [wI ((i : Int) + 1), .ms (i + 3) 0 w w]) := by simp [outW]
  simp only [snapR, h1, Nat.zero_add, hl, Nat.le_refl, if_true, List.drop_zero]
  rw [if_pos, List.take_of_length_le (by rw [hl]; exact Nat.le_refl _), e0, List.map_map, wholeL, List.map_map]
  · refine congrArg D.fl (List.map_congr_left fun i hi => ?_)
    rw [List.mem_range] at hi
    have h3 := snapW (k := 3) (m := w) (cap := w) (h2 i hi) (rowF_len d w i w 0).symm
    show [wI ((i : Int) + 1), snap lk 4 (.ms (i + 3) 0 w w)] = _
    rw [h3, rowF_last]; rfl
  · rw [e0]
    refine List.all_eq_true.2 fun e he => ?_
    obtain ⟨i, hi, rfl⟩ := List.mem_map.1 he
    rw [List.mem_range] at hi
    have h3 : frK lk 4 (.ms (i + 3) 0 w w) = true := by
      simp only [frK, h2 i hi]
      exact eI_all _ _ fun x => rfl
    rw [List.all_cons, List.all_cons, List.all_nil, h3]; rfl
theorem m_whole (s : Shape) (d : List (List Int)) (h : CkOk s) (hd : dataW s.Width.toNat d) : Maps Tryz.prog 71 [dSh s, .sl (d.map eRow)] (.fl ((wholeL (s.Data + s.Checks).toNat s.Width.toNat d).map eLeaf)) := by
  refine Maps.vt pok Tryz.f71 (n := 54) (rs := [.tmp 4]) rfl rfl rfl rfl rfl rfl fun g => ?_
  obtain ⟨N, hN⟩ : ∃ N : Nat, s.Data + s.Checks = (N : Int) := Int.eq_ofNat_of_zero_le (by omega)
  obtain ⟨w, hw⟩ : ∃ w : Nat, s.Width = (w : Int) := Int.eq_ofNat_of_zero_le (by omega)
  rw [hN, hw, Int.toNat_natCast, Int.toNat_natCast]
  rw [hw, Int.toNat_natCast] at hd
  repeat (any_goals (first | (refine d_RT ?_; (first | refine RT.nil ?_ | refine RT.new (by first | (simp only [nrm]; rfl) | (simp only [nrm, Nat.reduceAdd, Nat.zero_add]; rfl) | rfl) (f_make (z := [wI 0, .nil]) (sz := 2) (m := N) (by' := 32) rfl rfl rfl rfl rfl (by decide) rfl (by omega) (by omega) (by omega)) (by first | (simp only [nrm]; rfl) | (simp only [nrm, Nat.reduceAdd, Nat.zero_add]; rfl) | rfl) ?_ | refine RT.new (by first | (simp only [nrm]; rfl) | (simp only [nrm, Nat.reduceAdd, Nat.zero_add]; rfl) | rfl) (f_allocL (z := [.nil]) (m := 1) rfl rfl) (by first | (simp only [nrm]; rfl) | (simp only [nrm, Nat.reduceAdd, Nat.zero_add]; rfl) | rfl) ?_ | refine RT.mvA ?_ | refine RT.asA ?_ | refine RT.ldA ?_ | refine RT.faA ?_ | refine RT.bnA ?_ | refine RT.clA ?_ | refine RT.stA ?_ | refine RT.nwA ?_)) | (refine d_VT ?_; (first | refine VT.seq rfl ?_ | refine VT.reg rfl ?_ | refine VT.block rfl ?_))))
  refine VT.loop (fun j a H g' => ∃ (k : Nat) (ws : List Blk), j = N - k ∧ k ≤ N ∧ ws = List.replicate k (.live 1 ((List.replicate w 0).map eI)) ∧ a = [(1, .sl (d.map eRow)), (2, .mp 0 0 0), (5, .mp 2 0 0), (17, wI N), (18, wI k)] ∧ H = .live 3 [eShape s] :: .live 2 (outW N w k) :: .live 1 [[.ms 1 0 N N]] :: ws ∧ g' = g) rfl
    ⟨_, _, _, ⟨0, [], rfl, Nat.zero_le _, rfl, rfl, rfl, rfl⟩, Wk.fg ⟨by (repeat first | exact True.intro | refine And.intro ?_ ?_ | exact Or.inr (Or.inl rfl) | exact Or.inl rfl | (refine DLe.i rfl ?_; omega) | (refine DLe.i rfl ?_; simp; done)), rfl, (by first | decide | exact Nat.zero_le _ | exact Nat.le_refl _ | (first | omega | (simp only [List.length_set, List.length_replicate, List.length_append, List.length_map, List.length_cons, List.length_nil]; omega))), (by first | rfl | simp_all [lowB]), by (repeat first | exact bb_nil | refine bb_cons ?_ ?_ | exact eI_low _ _ | exact outW_low (by simp) | exact eDot_low _ _ | exact bb_dead | exact bb_free | exact bb_lit rfl | (simp [BlkBelow, lowB]; done))⟩⟩ ?_
  rintro j a H g' ⟨k, ws, rfl, hk, hws, rfl, rfl, rfl⟩
  by_cases hlt : k < N
  · have hwl : ws.length = k := by rw [hws, List.length_replicate]
    have hok : (outW N w k)[k]? = some [wI 0, .nil] := by
      rw [outW, List.getElem?_append_right (by simp)]
      simp [show 0 < N - k by omega]
    have hset : (outW N w k).set k [wI ((k : Int) + 1), .ms (ws.length + 3) 0 w w] = outW N w (k + 1) := by
      obtain ⟨q, hq⟩ : ∃ q, N - k = q + 1 := ⟨N - k - 1, by omega⟩
      rw [outW, List.set_append_right _ _ (by simp), outW, List.range_succ, List.map_append, show N - (k + 1) = q by omega, hq, hwl]
      simp [List.replicate_succ]
    repeat (any_goals (first | (refine d_RT ?_; (first | refine RT.nil ?_ | refine RT.mvA ?_ | refine RT.asA ?_ | refine RT.bnA ?_)) | (refine d_VT ?_; (first | refine VT.seq rfl ?_ | refine VT.reg rfl ?_ | refine VT.draw [(2, [0, 1]), (2, [0, 1]), (2, [0, 1]), (2, [0, 1]), (2, [0, 1]), (2, [0, 1]), (0, [0, 1]), (2, [1]), (2, [1]), (1, [1])] 3 mixedOk rfl (by decide +kernel) (by decide +kernel) (by decide +kernel) (by first | (simp only [nrm]; rfl) | (simp only [nrm, Nat.reduceAdd, Nat.zero_add]; rfl) | rfl) (by first | (simp only [nrm]; rfl) | (simp only [nrm, Nat.reduceAdd, Nat.zero_add]; rfl) | rfl) ?_ | refine VT.condY rfl rfl (by first | assumption | omega) ?_ | refine VT.block rfl ?_ | refine VT.skip rfl ?_)) | (refine d_PT ?_; (first | refine PT.newI (mask_app (H0 := _ :: _ :: _ :: ws) (T := [_, _, _]) rfl) (s' := ws.length + 3) rfl (f_make (z := [wI 0]) (sz := 1) (m := w) (by' := 8) rfl rfl rfl rfl rfl (by decide) rfl hw (by omega) (by omega)) (H' := .live 3 [eShape s] :: .live 2 (outW N w k) :: .live 1 [[.ms 1 0 N N]] :: (ws ++ [.live 1 (List.replicate w [wI 0]), .free, .free])) (by show _ :: _ :: _ :: ((ws ++ _).set ws.length _) = _; rw [List.set_append_right _ _ (Nat.le_refl _), Nat.sub_self]; rfl) ?_ | refine PT.vI (mask_app (H0 := _ :: _ :: _ :: ws) (T := [_, _, _]) rfl) (f_build (d := .agg [wI ((k : Int) + 1), .ms (ws.length + 3) 0 w w]) rfl) ?_ | refine PT.wrI (mask_app (H0 := _ :: _ :: _ :: ws) (T := [_, _, _]) rfl) (f_stA rfl rfl hok rfl rfl rfl rfl (by decide) rfl) (H' := .live 3 [eShape s] :: .live 2 (outW N w (k + 1)) :: .live 1 [[.ms 1 0 N N]] :: (ws ++ [.live 1 (List.replicate w [wI 0]), .free, .free])) (by rw [← hset]; rfl) ?_ | refine PT.done (H' := .live 3 [eShape s] :: .live 2 (outW N w (k + 1)) :: .live 1 [[.ms 1 0 N N]] :: ((ws ++ [.live 1 (List.replicate w [wI 0])]) ++ [.free])) (by simp [List.dropLast]) ?_ | refine PT.mvI (mask_app (H0 := _ :: _ :: _ :: ws) (T := [_, _, _]) rfl) ?_ | refine PT.ldI (mask_app (H0 := _ :: _ :: _ :: ws) (T := [_, _, _]) rfl) ?_ | refine PT.faI (mask_app (H0 := _ :: _ :: _ :: ws) (T := [_, _, _]) rfl) ?_ | refine PT.bnI (mask_app (H0 := _ :: _ :: _ :: ws) (T := [_, _, _]) rfl) ?_ | refine PT.ixI (mask_app (H0 := _ :: _ :: _ :: ws) (T := [_, _, _]) rfl) ?_)) | with_reducible (refine kLn ?_)))
    refine ⟨N - (k + 1), by omega, _, _, ⟨k + 1, ws ++ [.live 1 (List.replicate w [wI 0])], rfl, hlt, ?_, rfl, rfl, rfl⟩, fg_ws (pre := [.live 3 [eShape s], .live 2 (outW N w (k + 1)), .live 1 [[.ms 1 0 N N]]]) (T := [.free]) (by (repeat first | exact True.intro | refine And.intro ?_ ?_ | exact Or.inr (Or.inl rfl) | exact Or.inl rfl | (refine DLe.i rfl ?_; omega) | (refine DLe.i rfl ?_; simp; done))) (Nat.zero_le _) rfl ?_ ?_⟩
    · rw [hws, List.replicate_succ']; first | done | simp [eI]
    · exact bb_cons (bb_lit rfl) (bb_cons (outW_low (by simp [hwl])) (bb_cons (BlkBelow.mono (K := 3) (by simp) (bb_lit rfl)) bb_nil))
    · rw [hws]
      intro b hb
      rcases List.mem_append.1 hb with h1 | h1
      · rw [(List.mem_replicate.1 h1).2]; exact eI_low _ _
      · rw [List.mem_singleton.1 h1]; exact bb_lit (by simp [lowB])
  · obtain rfl : k = N := by omega
    have hwl : ws.length = k := by rw [hws, List.length_replicate]
    rw [← wsF_zero d k w] at hws
    repeat (any_goals (first | (refine d_RT ?_; (first | refine RT.nil ?_ | refine RT.mvA ?_ | refine RT.ldA ?_ | refine RT.bnA ?_ | refine RT.callS rfl (c_places s d) rfl (by first | (simp only [nrm]; rfl) | (simp only [nrm, Nat.reduceAdd, Nat.zero_add]; rfl) | rfl) (by first | (simp only [nrm]; rfl) | (simp only [nrm, Nat.reduceAdd, Nat.zero_add]; rfl) | rfl) ?_)) | (refine d_VT ?_; (first | refine VT.seq rfl ?_ | refine VT.reg rfl ?_ | refine VT.condN rfl rfl (by first | assumption | omega) ?_ | refine VT.block rfl ?_ | refine VT.exit rfl ?_))))
    refine VT.range (pseq w d) [ws.length + 3, ws.length + 4] (fun j H => H = .live 3 [eShape s] :: .live 2 (outW k w k) :: .live 1 [[.ms 1 0 k k]] :: (wsF d k w j 0 ++ [.dead, .dead])) rfl rfl rfl ?_ rfl ?_ (i_places s w hw d hd (by omega)) ?_ ?_ ?_ ?_
    · simp
    · have e := sel_app (H0 := .live 3 [eShape s] :: .live 2 (outW k w k) :: .live 1 [[.ms 1 0 k k]] :: ws) (x := .live 3 [eShape s]) (y := .live 1 [[.sl (d.map eRow)]])
      have e3 := congr (congrArg (fun x y => [x, y]) (snap_box e.1 rfl)) (snap_box e.2 rfl)
      exact e3
    · intro j args hg
      have hj : j < w := by rw [← pseq_len w d]; exact (List.getElem?_eq_some_iff.1 hg).1
      rw [pseq_get d hj] at hg; cases hg; exact ⟨rfl, rfl⟩
    · exact (kill_app (H0 := .live 3 [eShape s] :: .live 2 (outW k w k) :: .live 1 [[.ms 1 0 k k]] :: ws)).trans (by rw [hws]; rfl)
    · intro j args H' hg hJ
      have hj : j < w := by rw [← pseq_len w d]; exact (List.getElem?_eq_some_iff.1 hg).1
      rw [pseq_get d hj] at hg; cases hg; subst hJ
      repeat (any_goals (first | (refine d_RT ?_; (first | refine RT.nil ?_ | refine RT.asA ?_)) | (refine d_VT ?_; (first | refine VT.seq rfl ?_ | refine VT.reg rfl ?_))))
      refine ⟨rfl, ?_⟩
      repeat (any_goals (first | (refine d_RT ?_; (first | refine RT.nil ?_ | refine RT.mvA ?_ | refine RT.ldA ?_ | refine RT.clA ?_)) | (refine d_VT ?_; (first | refine VT.seq rfl ?_ | refine VT.reg rfl ?_ | refine VT.block rfl ?_))))
      refine VT.loop (fun jj a H g2 => ∃ (i : Nat) (ws : List Blk), jj = k - i ∧ i ≤ k ∧ ws = wsF d k w j i ∧ a = [(5, .mp 2 0 0), (7, wI j), (8, .fl ((colS d j).map eI)), (37, wI k), (38, wI i)] ∧ H = .live 3 [eShape s] :: .live 2 (outW k w k) :: .live 1 [[.ms 1 0 k k]] :: (ws ++ [.dead, .dead]) ∧ g2 = (0, false)) rfl
        ⟨_, _, _, ⟨0, wsF d k w j 0, rfl, Nat.zero_le _, rfl, rfl, rfl, rfl⟩, ?_⟩ ?_
      · show Wk _ 54 _ ([.live 3 [eShape s], .live 2 (outW k w k), .live 1 [[.ms 1 0 k k]]] ++ (wsF d k w j 0 ++ [.dead, .dead])) _ ([.live 3 [eShape s], .live 2 (outW k w k), .live 1 [[.ms 1 0 k k]]] ++ (wsF d k w j 0 ++ [.dead, .dead]))
        exact fg_ws0 (by (repeat first | exact True.intro | refine And.intro ?_ ?_ | exact Or.inr (Or.inl rfl) | exact Or.inl rfl | (refine DLe.i rfl ?_; omega) | (refine DLe.i rfl ?_; simp; done))) (Nat.le_refl _) rfl (bb_cons (bb_lit rfl) (bb_cons (outW_low (by simp [wsF_len])) (bb_cons (BlkBelow.mono (K := 3) (by simp) (bb_lit rfl)) bb_nil))) (wsF_low _ _ _ _ _ _ dead2)
      · rintro jj a H g2 ⟨i, ws, rfl, hi, hws2, rfl, rfl, rfl⟩
        by_cases hlt2 : i < k
        · have hcw : allW (colS d j) := DM.through_W _ _
          have hcl : (colS d j).length ≤ 4611686018427387904 := by
            have h1 := hd.1
            rw [colS, DM.through_len, dX_len, dotsC_len]; omega
          have hv := m_value (colS d j) ((i : Int) + 1) hcl hcw ⟨by omega, by omega⟩
          have hwl2 : ws.length = k := by rw [hws2, wsF_len]
          have hg2 : (ws ++ [Blk.dead, .dead] ++ [Blk.free, .free])[i]? = some (.live 1 ((rowF d w i j i).map eI)) := by
            rw [List.append_assoc, List.getElem?_append_left (by omega), hws2]; exact wsF_get d hlt2
          have hst : (ws ++ [Blk.dead, .dead] ++ [Blk.free, .free]).set i (.live 1 (((rowF d w i j i).set j (horner (colS d j) ((i : Int) + 1))).map eI)) = wsF d k w j (i + 1) ++ [.dead, .dead] ++ [.free, .free] := by
            rw [List.append_assoc, List.append_assoc, List.set_append_left _ _ (by omega), hws2, wsF_set d hlt2 hj]
          repeat (any_goals (first | (refine d_RT ?_; (first | refine RT.nil ?_ | refine RT.mvA ?_ | refine RT.asA ?_ | refine RT.bnA ?_)) | (refine d_VT ?_; (first | refine VT.seq rfl ?_ | refine VT.reg rfl ?_ | refine VT.draw [(1, [0]), (1, [0]), (1, [0]), (1, [0]), (1, [0]), (1, [0]), (1, [0]), (1, [0]), (1, [0]), (1, [0]), (1, [0]), (0, [0])] 2 mixedOk rfl (by decide +kernel) (by decide +kernel) (by decide +kernel) (by first | (simp only [nrm]; rfl) | (simp only [nrm, Nat.reduceAdd, Nat.zero_add]; rfl) | rfl) (by first | (simp only [nrm]; rfl) | (simp only [nrm, Nat.reduceAdd, Nat.zero_add]; rfl) | rfl) ?_ | refine VT.condY rfl rfl (by first | assumption | omega) ?_ | refine VT.block rfl ?_ | refine VT.skip rfl ?_)) | (refine d_PT ?_; (first | refine PT.vI (mask_app (H0 := _ :: _ :: _ :: (ws ++ [.dead, .dead])) (T := [_, _]) rfl) (f_ldO rfl rfl (outW_get hlt2) rfl rfl) ?_ | refine PT.vI (mask_app (H0 := _ :: _ :: _ :: (ws ++ [.dead, .dead])) (T := [_, _]) rfl) (f_ixO0 rfl rfl (by first | with_reducible exact castR _ | rfl) hg2 rfl (by omega)) ?_ | refine PT.wrI (mask_app (H0 := _ :: _ :: _ :: (ws ++ [.dead, .dead])) (T := [_, _]) rfl) (f_stW rfl hg2 (by rw [rowF_len]; exact hj) rfl rfl) (H' := .live 3 [eShape s] :: .live 2 (outW k w k) :: .live 1 [[.ms 1 0 k k]] :: (wsF d k w j (i + 1) ++ [.dead, .dead] ++ [.free, .free])) (by rw [← hst]; rfl) ?_ | refine PT.done (H' := .live 3 [eShape s] :: .live 2 (outW k w k) :: .live 1 [[.ms 1 0 k k]] :: ((wsF d k w j (i + 1) ++ [.dead, .dead]) ++ [.free])) (by simp [List.dropLast]) ?_ | refine PT.mvI (mask_app (H0 := _ :: _ :: _ :: (ws ++ [.dead, .dead])) (T := [_, _]) rfl) ?_ | refine PT.ldI (mask_app (H0 := _ :: _ :: _ :: (ws ++ [.dead, .dead])) (T := [_, _]) rfl) ?_ | refine PT.faI (mask_app (H0 := _ :: _ :: _ :: (ws ++ [.dead, .dead])) (T := [_, _]) rfl) ?_ | refine PT.bnI (mask_app (H0 := _ :: _ :: _ :: (ws ++ [.dead, .dead])) (T := [_, _]) rfl) ?_ | refine PT.callI (mask_app (H0 := _ :: _ :: _ :: (ws ++ [.dead, .dead])) (T := [_, _]) rfl) rfl (hv) (by first | (simp only [nrm]; rfl) | (simp only [nrm, Nat.reduceAdd, Nat.zero_add]; rfl) | rfl) rfl ?_ | refine PT.ixI (mask_app (H0 := _ :: _ :: _ :: (ws ++ [.dead, .dead])) (T := [_, _]) rfl) ?_)) | with_reducible (refine kLn ?_)))
          refine ⟨k - (i + 1), by omega, _, _, ⟨i + 1, wsF d k w j (i + 1), rfl, hlt2, rfl, rfl, rfl, rfl⟩, ?_⟩
          show Wk _ 54 _ ([.live 3 [eShape s], .live 2 (outW k w k), .live 1 [[.ms 1 0 k k]]] ++ ((wsF d k w j (i + 1) ++ [.dead, .dead]) ++ [.free])) _ ([.live 3 [eShape s], .live 2 (outW k w k), .live 1 [[.ms 1 0 k k]]] ++ (wsF d k w j (i + 1) ++ [.dead, .dead]))
          exact fg_ws (by (repeat first | exact True.intro | refine And.intro ?_ ?_ | exact Or.inr (Or.inl rfl) | exact Or.inl rfl | (refine DLe.i rfl ?_; omega) | (refine DLe.i rfl ?_; simp; done))) (by show List.length _ ≤ _; simp [wsF_len]) rfl (bb_cons (bb_lit rfl) (bb_cons (outW_low (by simp [wsF_len])) (bb_cons (BlkBelow.mono (K := 3) (by simp) (bb_lit rfl)) bb_nil))) (wsF_low _ _ _ _ _ _ dead2)
        · obtain rfl : i = k := by omega
          repeat (any_goals (first | (refine d_RT ?_; (first | refine RT.nil ?_ | refine RT.bnA ?_)) | (refine d_VT ?_; (first | refine VT.seq rfl ?_ | refine VT.reg rfl ?_ | refine VT.condN rfl rfl (by first | assumption | omega) ?_ | refine VT.exit rfl ?_)) | (with_reducible first | refine kBn ?_ | refine kSe ?_ | refine kBe ?_ | refine kLe ?_)))
          show _ :: _ :: _ :: _ = _
          rw [hws2, wsF_next]
    · intro H' hJ
      subst hJ
      rw [pseq_len]
      repeat (any_goals (first | (refine d_RT ?_; (first | refine RT.nil ?_ | refine RT.asA ?_ | refine RT.ldA ?_)) | (refine d_VT ?_; (first | refine VT.seq rfl ?_ | refine VT.reg rfl ?_ | refine VT.ret rfl ?_)) | (with_reducible refine d_kEr ?_; refine kEr rfl ?_)))
      refine snapR_leaves (lk := fun b => (Blk.live 3 [eShape s] :: Blk.live 2 (outW k w k) :: Blk.live 1 [[.ms 1 0 k k]] :: (wsF d k w w 0 ++ [.dead, .dead]))[b]?) rfl fun i hi => ?_
      show (wsF d k w w 0 ++ [Blk.dead, .dead])[i]? = _
      rw [List.getElem?_append_left (by rw [wsF_len]; exact hi)]
      exact wsF_get d hi
theorem dataW_of {s : Shape} {d : List (List Int)} (h : CkOk s) (hd : DataS s d = true) : dataW s.Width.toNat d := by
  simp only [DataS, Bool.and_eq_true, decide_eq_true_eq] at hd
  refine ⟨by omega, fun r hr => ?_⟩
  have := List.all_eq_true.1 hd.2 r hr
  simp only [rowOk, Bool.and_eq_true, decide_eq_true_eq] at this
  exact ⟨by omega, allW_of this.2⟩
end Go.DL
