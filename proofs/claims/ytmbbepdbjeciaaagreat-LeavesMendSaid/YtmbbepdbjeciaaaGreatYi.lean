/- The reference's polynomial from points with few faults. -/
import Derived.Test.YtmbbepdbjeciaaaGreatYh
import Derived.Test.YtmbbepdbjeciaaaGreatE12
import Derived.Test.YtmbbepdbjeciaaaGreatZm
set_option maxRecDepth 100000
set_option maxHeartbeats 16000000
namespace Go.DL
open Go.Proofs Go

/-- An append of whatever elements. -/
theorem f_appE {P : Program} {H : List Blk} {s n : Nat} {al : AL} {tx : TypeId} {x y : Operand} {α : Type} {f : α → List D} {te : TypeId} {m mm c b1 sz by' : Nat} {es : List (List D)} {o v : List α} {d' : D} (hx : evA n al x = .ms b1 0 m c) (hy : evA n al y = d') (hb1 : H[b1]? = some (.live sz es)) (hes : es.take m = o.map f) (hle : m ≤ es.length) (hv : elemsD H d' = some (v.map f)) (hm : m = o.length)
    (hmm : o.length + v.length = mm) (he : elemT P tx = some (te, sz)) (h0 : 0 < sz) (hz : (zeroD P te).map List.length = some sz) (hby : P.bytesOf te = by') (hf : ∀ a, (f a).length = sz ∧ (f a).all isCell = true) (hl : (o.length + v.length) * by' ≤ 140737488355328) (hl2 : o.length + v.length ≤ 9223372036854775807) :
    Ap P H s n al (.call { callee := .builtin .append, args := #[x, y], argTypes := #[tx, tx] }) mm (some b1) (.live sz ((o ++ v).map f)) := by
  subst hm; subst hmm
  have hu : P.underlying tx = some (.slice te) := by
    unfold elemT at he
    split at he
    · rename_i e hu; simp only [Option.map_eq_some_iff] at he; obtain ⟨_, _, h⟩ := he; cases h; exact hu
    · cases he
  refine f_app hx hy ?_ (by simp)
  have e1 : elemsD H (.ms b1 0 o.length c) = some (o.map f) := by
    simp only [elemsD, hb1, Nat.zero_add, hle, if_true, List.drop_zero, hes]
  have e3 : ∀ l : List α, (l.map f).all (fun e => e.length == sz) = true := fun l => List.all_eq_true.2 fun e he => by
    obtain ⟨a, _, rfl⟩ := List.mem_map.1 he
    simpa using (hf a).1
  have e4 : (v.map f).all (fun e => e.all isCell) = true := List.all_eq_true.2 fun e he => by
    obtain ⟨a, _, rfl⟩ := List.mem_map.1 he
    exact (hf a).2
  simp only [appendD, addedD, he, hu, e1, hv]
  rw [if_pos]
  · simp only [hb1, Blk.hasSz]; simp
  · refine ⟨h0, hz, e3 o, e3 v, e4, ?_, ?_⟩
    · rw [hby, List.length_map, List.length_map]; exact hl
    · rw [List.length_map, List.length_map]; exact hl2
/-- The first elements of an own slice. -/
theorem f_slHiO {P : Program} {H : List Blk} {s n : Nat} {al : AL} {x y : Operand} {tx te : TypeId} {a : Int} {bk len cap sz k : Nat} {es : List (List D)} (hx : evA n al x = .ms bk 0 len cap) (hy : evA n al y = wI a) (hn : a = k) (hk : k ≤ cap)
    (he : elemT P tx = some (te, sz)) (hb : H[bk]? = some (.live sz es)) : Val P H s n al (.slice tx x none (some y) none) (.ms bk 0 k cap) := by
  subst hn
  refine ⟨?_⟩
  simp only [stepD, ev_T, sliceD, he, hx, unfl, Option.map_none, Option.map_some, hy, bndD, intD, Option.isSome_none, Bool.false_eq_true, false_and, if_false]
  rw [if_pos ⟨by simp [Blk.hasSz, hb], by omega, by omega, by omega⟩]
  simp [keepD]
/-- The rows, and a row that is being laid. -/
structure QW (H : List Blk) (b n : Nat) (ps : List Nat) (M : List (List Int)) (q : Nat) (row : List Int) : Prop where
  rw : RW H b n ps M
  at_ : H[q]? = some (.live 1 (row.map eI))
  qb : q ≠ b
  qr : ∀ i, i < ps.length → ps.getD i 0 ≠ q
section
variable {H : List Blk} {b n q : Nat} {ps : List Nat} {M : List (List Int)} {row : List Int}
theorem QW.start (h : RW H b n ps M) (r : List Int) : QW (H ++ [.live 1 (r.map eI)]) b n ps M H.length r := by
  obtain ⟨h1, h2⟩ := h.lt
  exact ⟨h.app _, blk_at (t := 0) rfl rfl, by omega, fun i hi => by have := h2 i hi; omega⟩
theorem QW.app (h : QW H b n ps M q row) (T : List Blk) : QW (H ++ T) b n ps M q row := ⟨h.rw.app T, blk_app T h.at_, h.qb, h.qr⟩
theorem QW.set (h : QW H b n ps M q row) (r : List Int) : QW (H.set q (.live 1 (r.map eI))) b n ps M q r := ⟨h.rw.other h.qb h.qr _, List.getElem?_set_self (blk_lt h.at_), h.qb, h.qr⟩
theorem QW.done (h : QW H b n ps M q row) {x : Blk} : RW (H.set b .dead ++ [x, .live 1 ((ps ++ [q]).map fun p => [.ms p 0 (n + 1) (n + 1)])]) (H.length + 1) n (ps ++ [q]) (M ++ [row]) := by
  obtain ⟨h1, h2⟩ := h.rw.lt
  have h3 := blk_lt h.at_
  have hl : (H.set b Blk.dead).length = H.length := by simp
  have hL := h.rw.len
  have hp : (ps ++ [q]).length = ps.length + 1 := by simp
  refine ⟨blk_at (t := 1) hl rfl, fun i hi => ?_, fun i hi => ?_, fun i j hi hj he => ?_, by simp [hL]⟩
  · rw [hp] at hi
    rw [getD_snocL _ _ _ _ hi, getD_snocL _ _ _ _ (by omega), hL]
    split
    · rename_i hlt
      exact blk_app _ (blk_ne (h.rw.row i hlt) fun e => h.rw.ne i hlt e.symm)
    · exact blk_app _ (blk_ne h.at_ (Ne.symm h.qb))
  · rw [hp] at hi
    rw [getD_snocL _ _ _ _ hi]
    split
    · rename_i hlt; have := h2 i hlt; omega
    · omega
  · rw [hp] at hi hj
    rw [getD_snocL _ _ _ _ hi, getD_snocL _ _ _ _ hj] at he
    split at he <;> split at he
    · rename_i a1 a2; exact h.rw.nd i j a1 a2 he
    · rename_i a1 a2; exact absurd he (h.qr i a1)
    · rename_i a1 a2; exact absurd he.symm (h.qr j a2)
    · omega
end
theorem key1 {k e j : Nat} {p : Int × Int} (h : j < k + e) : (DM.keyRow k e p).getD j 0 = DM.pw p.1 j := by
  rw [DM.keyRow, List.getD_eq_getElem?_getD, List.getElem?_append_left (by simpa using h)]; simp [h]
theorem key2 {k e j : Nat} {p : Int × Int} (h : j < e) : (DM.keyRow k e p).getD (k + e + j) 0 = -p.2 * DM.pw p.1 j % 65521 := by
  have h1 : ((List.range (k + e)).map (DM.pw p.1)).length = k + e := by simp
  rw [DM.keyRow, List.getD_eq_getElem?_getD, List.getElem?_append_right (by omega), h1, Nat.add_sub_cancel_left, List.getElem?_append_left (by simpa using h)]; simp [h]
theorem key3 {k e : Nat} {p : Int × Int} : (DM.keyRow k e p).getD (k + 2 * e) 0 = p.2 * DM.pw p.1 e % 65521 := by
  have h1 : ((List.range (k + e)).map (DM.pw p.1)).length = k + e := by simp
  have h2 : ((List.range e).map fun j => -p.2 * DM.pw p.1 j % 65521).length = e := by simp
  rw [DM.keyRow, List.getD_eq_getElem?_getD, List.getElem?_append_right (by omega), h1, List.getElem?_append_right (by omega), h2, show k + 2 * e - (k + e) - e = 0 by omega]; rfl
theorem negm (y p : Int) : (65521 - y) % 65521 * p % 65521 = -y * p % 65521 := by
  rw [Int.mul_emod, Int.emod_emod_of_dvd _ (Int.dvd_refl _), ← Int.mul_emod, show (65521 - y) * p = -y * p + p * 65521 by rw [Int.sub_mul, Int.neg_mul]; omega, Int.add_mul_emod_self_right]
theorem m_rdecode {k e : Nat} {ds : List Dot} (hk : k ≤ ds.length) (he : ((ds.length : Int) - k) / 2 = (e : Int)) (hl : ds.length ≤ 500) (hW : ∀ d, d ∈ ds → W d.X ∧ W d.Y) (hA : DM.Apart ((ds.map dotP2).map Prod.fst)) :
    (∀ c, DM.decS k e (ds.map dotP2) = some c → Maps Tryz.prog 82 [.sl (ds.map eDot), wI k] (.tup [.fl (c.map eI), wB true])) ∧ (DM.decS k e (ds.map dotP2) = none → Maps Tryz.prog 82 [.sl (ds.map eDot), wI k] (.tup [.fl [], wB false])) := by
  suffices h : ∀ r, r = (match DM.decS k e (ds.map dotP2) with | some c => D.tup [.fl (c.map eI), wB true] | none => .tup [.fl [], wB false]) → Maps Tryz.prog 82 [.sl (ds.map eDot), wI k] r from
    ⟨fun c hc => h _ (by rw [hc]), fun hc => h _ (by rw [hc])⟩
  intro res hres
  have hke : k + 2 * e ≤ ds.length := by omega
  obtain ⟨n, hn⟩ : ∃ n, n = k + 2 * e := ⟨_, rfl⟩
  refine Maps.vt pok Tryz.f82 (n := 124) (rs := [.tmp 4, .tmp 5]) rfl rfl rfl rfl rfl rfl fun g => ?_
  repeat (any_goals (first | (refine d_RT ?_; (first | refine RT.nil ?_ | refine RT.v (f_quoE (e := e) rfl rfl (by omega) (by omega) (by omega) he) ?_ | refine RT.mvA ?_ | refine RT.asA ?_ | refine RT.bnA ?_ | refine RT.clA ?_)) | (refine d_VT ?_; (first | refine VT.seq rfl ?_ | refine VT.reg rfl ?_ | refine VT.block rfl ?_))))
  refine VT.phantom (i := 8) (s := 0) (H' := [.live 1 []]) 1 rfl rfl rfl ?_
  refine VT.loop (fun j a H g' => ∃ (i b : Nat) (qs : List Nat), j = ds.length - i ∧ i ≤ ds.length ∧ qs.length = i ∧ RW H b n qs (((ds.take i).map dotP2).map (DM.keyRow k e)) ∧ a = [(0, .sl (ds.map eDot)), (1, wI k), (6, wI e), (7, wI n), (8, .ms b 0 i i), (9, wI i)] ∧ g' = g) rfl
    ⟨_, _, [.live 1 []], ⟨0, 0, [], rfl, Nat.zero_le _, rfl, RW.nil rfl, rfl, rfl⟩, Wk.keep (by (repeat first | exact True.intro | refine And.intro ?_ ?_ | exact Or.inr (Or.inl rfl) | exact Or.inl rfl | (refine DLe.i rfl ?_; omega) | (refine DLe.i rfl ?_; simp; done)))⟩ ?_
  rintro j a H g' ⟨i, b, qs, rfl, hi, hqs, hR, rfl, rfl⟩
  by_cases hlt : i < ds.length
  · obtain ⟨hX, hY⟩ := hW ds[i] (List.getElem_mem hlt)
    obtain ⟨hX1, hX2⟩ := hX
    obtain ⟨hY1, hY2⟩ := hY
    obtain ⟨Z, hZ⟩ : ∃ Z : List Int, Z = List.replicate (n + 1) 0 := ⟨_, rfl⟩
    have hZl : Z.length = n + 1 := by rw [hZ]; simp
    have hrl : (DM.keyRow k e (dotP2 ds[i])).length = Z.length := by rw [DM.keyRow_len, hZl, hn]
    have hzr : (List.replicate (n + 1) [wI 0] : List (List D)) = Z.map eI := by rw [hZ]; simp [eI]
    repeat (any_goals (first | (refine d_RT ?_; (first | refine RT.nil ?_ | refine RT.new (s := H.length) rfl (f_make (z := [wI 0]) (sz := 1) (m := n + 1) (by' := 8) rfl rfl rfl rfl rfl (by decide) rfl (by omega) (by omega) (by omega)) (H' := H ++ [.live 1 (List.replicate (n + 1) [wI 0])]) rfl ?_ | refine RT.mvA ?_ | refine RT.asA ?_ | refine RT.bnA ?_ | refine RT.clA ?_)) | (refine d_VT ?_; (first | refine VT.seq rfl ?_ | refine VT.reg rfl ?_ | refine VT.condY rfl rfl (by first | assumption | omega) ?_ | refine VT.block rfl ?_ | refine VT.skip rfl ?_))))
    rw [hzr]
    have h0 := QW.start hR Z
    obtain ⟨M, hM⟩ : ∃ M, M = ((ds.take i).map dotP2).map (DM.keyRow k e) := ⟨_, rfl⟩
    rw [← hM] at h0
    generalize H.length = q at h0 ⊢
    generalize H ++ [Blk.live 1 (Z.map eI)] = H1 at h0 ⊢
    refine VT.loop (fun jj a H g2 => ∃ j : Nat, jj = k + e - j ∧ j ≤ k + e ∧ QW H b n qs M q (mixL (DM.keyRow k e (dotP2 ds[i])) Z j) ∧ a = [(0, .sl (ds.map eDot)), (1, wI k), (6, wI e), (7, wI n), (8, .ms b 0 i i), (9, wI i), (10, .ms q 0 (n + 1) (n + 1)), (11, wI j)] ∧ g2 = g') rfl
      ⟨_, _, H1, ⟨0, rfl, Nat.zero_le _, by rw [mixL_zero]; exact h0, rfl, rfl⟩, Wk.keep (by (repeat first | exact True.intro | refine And.intro ?_ ?_ | exact Or.inr (Or.inl rfl) | exact Or.inl rfl | (refine DLe.i rfl ?_; omega) | (refine DLe.i rfl ?_; simp; done)))⟩ ?_
    clear h0 hR hzr hZ
    rintro jj a H2 g2 ⟨j, rfl, hj, hQ, rfl, rfl⟩
    by_cases hlj : j < k + e
    · have hg := key1 (p := dotP2 ds[i]) hlj
      have hset := hQ.set (mixL (DM.keyRow k e (dotP2 ds[i])) Z (j + 1))
      rw [← mixL_set hrl (by omega), hg] at hset
      repeat (any_goals (first | (refine d_RT ?_; (first | refine RT.nil ?_ | refine RT.v (f_ixO0 (k := j) rfl rfl rfl hQ.at_ rfl (by omega)) ?_ | refine RT.wr (f_stW (k := j) rfl hQ.at_ (by rw [mixL_len hrl (by omega)]; omega) rfl rfl) rfl ?_ | refine RT.mvA ?_ | refine RT.asA ?_ | refine RT.ldA ?_ | refine RT.faA ?_ | refine RT.bnA ?_ | refine RT.callM rfl (m_rpower ⟨hX1, hX2⟩ j (by omega)) rfl rfl ?_ | refine RT.ixA ?_)) | (refine d_VT ?_; (first | refine VT.seq rfl ?_ | refine VT.reg rfl ?_ | refine VT.condY rfl rfl (by first | assumption | omega) ?_ | refine VT.block rfl ?_ | refine VT.skip rfl ?_)) | with_reducible (refine kLn ?_)))
      exact ⟨k + e - (j + 1), by omega, _, _, ⟨j + 1, rfl, hlj, by rw [← mixL_set hrl (by omega), hg]; exact hset, rfl, rfl⟩, Wk.keep (by (repeat first | exact True.intro | refine And.intro ?_ ?_ | exact Or.inr (Or.inl rfl) | exact Or.inl rfl | (refine DLe.i rfl ?_; omega) | (refine DLe.i rfl ?_; simp; done)))⟩
    · obtain rfl : j = k + e := by omega
      repeat (any_goals (first | (refine d_RT ?_; (first | refine RT.nil ?_ | refine RT.mvA ?_ | refine RT.asA ?_ | refine RT.bnA ?_)) | (refine d_VT ?_; (first | refine VT.seq rfl ?_ | refine VT.reg rfl ?_ | refine VT.condN rfl rfl (by first | assumption | omega) ?_ | refine VT.block rfl ?_ | refine VT.exit rfl ?_))))
      refine VT.loop (fun jj a H g3 => ∃ j : Nat, jj = e - j ∧ j ≤ e ∧ QW H b n qs M q (mixL (DM.keyRow k e (dotP2 ds[i])) Z (k + e + j)) ∧ a = [(0, .sl (ds.map eDot)), (1, wI k), (6, wI e), (7, wI n), (8, .ms b 0 i i), (9, wI i), (10, .ms q 0 (n + 1) (n + 1)), (12, wI j)] ∧ g3 = g2) rfl
        ⟨_, _, H2, ⟨0, rfl, Nat.zero_le _, hQ, rfl, rfl⟩, Wk.keep (by (repeat first | exact True.intro | refine And.intro ?_ ?_ | exact Or.inr (Or.inl rfl) | exact Or.inl rfl | (refine DLe.i rfl ?_; omega) | (refine DLe.i rfl ?_; simp; done)))⟩ ?_
      clear hQ
      rintro jj a H3 g3 ⟨j, rfl, hj, hQ, rfl, rfl⟩
      have hql := blk_lt hQ.at_
      by_cases hlj : j < e
      · have hg := key2 (k := k) (p := dotP2 ds[i]) hlj
        have hset := hQ.set (mixL (DM.keyRow k e (dotP2 ds[i])) Z (k + e + j + 1))
        rw [← mixL_set hrl (by omega), hg, ← negm] at hset
        have hmul := mulB (a := (65521 - ds[i].Y) % 65521) (b := DM.pw ds[i].X j) ⟨by omega, by omega⟩ (DM.pw_W _ _)
        repeat (any_goals (first | (refine d_RT ?_; (first | refine RT.nil ?_ | refine RT.mvA ?_ | refine RT.asA ?_ | refine RT.bnA ?_)) | (refine d_VT ?_; (first | refine VT.seq rfl ?_ | refine VT.reg rfl ?_ | refine VT.draw [(1, [0]), (1, [0]), (1, [0]), (1, [0]), (1, [0]), (1, [0]), (1, [0]), (1, [0]), (1, [0]), (1, [0]), (1, [0]), (1, [0]), (1, [0]), (1, [0]), (1, [0]), (1, [0]), (1, [0]), (1, [0]), (1, [0]), (1, [0]), (1, [0]), (1, [0]), (1, [0]), (0, [0])] 2 mixedOk rfl (by decide +kernel) (by decide +kernel) (by decide +kernel) (by first | (simp only [nrm]; rfl) | (simp only [nrm, Nat.reduceAdd, Nat.zero_add]; rfl) | rfl) (by first | (simp only [nrm]; rfl) | (simp only [nrm, Nat.reduceAdd, Nat.zero_add]; rfl) | rfl) ?_ | refine VT.condY rfl rfl (by first | assumption | omega) ?_ | refine VT.block rfl ?_ | refine VT.skip rfl ?_)) | (refine d_PT ?_; (first | refine PT.vI (mask_app (H0 := H3) (T := [_, _]) rfl) (f_ixO0 (k := k + e + j) rfl rfl (by omega) (blk_app _ hQ.at_) rfl (by omega)) ?_ | refine PT.wrI (mask_app (H0 := H3) (T := [_, _]) rfl) (f_stW (k := k + e + j) rfl (blk_app _ hQ.at_) (by rw [mixL_len hrl (by omega)]; omega) rfl rfl) (List.set_append_left _ _ hql) ?_ | refine PT.done (dropL2 _ _ _) ?_ | refine PT.mvI ((mask_app (H0 := H3) (T := [_, _]) rfl)) ?_ | refine PT.ldI ((mask_app (H0 := H3) (T := [_, _]) rfl)) ?_ | refine PT.faI ((mask_app (H0 := H3) (T := [_, _]) rfl)) ?_ | refine PT.bnI ((mask_app (H0 := H3) (T := [_, _]) rfl)) ?_ | refine PT.callI ((mask_app (H0 := H3) (T := [_, _]) rfl)) rfl (m_rpower ⟨hX1, hX2⟩ j (by omega)) (by first | (simp only [nrm]; rfl) | (simp only [nrm, Nat.reduceAdd, Nat.zero_add]; rfl) | rfl) rfl ?_ | refine PT.ixI ((mask_app (H0 := H3) (T := [_, _]) rfl)) ?_)) | with_reducible (refine kLn ?_)))
        exact ⟨e - (j + 1), by omega, _, _, ⟨j + 1, rfl, hlj, by rw [show k + e + (j + 1) = k + e + j + 1 by omega, ← mixL_set hrl (by omega), hg, ← negm]; exact hset.app [.free], rfl, rfl⟩, Wk.keep (by (repeat first | exact True.intro | refine And.intro ?_ ?_ | exact Or.inr (Or.inl rfl) | exact Or.inl rfl | (refine DLe.i rfl ?_; omega) | (refine DLe.i rfl ?_; simp; done)))⟩
      · obtain rfl : j = e := by omega
        have hn2 : k + j + j = n := by omega
        have hg := key3 (k := k) (e := j) (p := dotP2 ds[i])
        rw [← hn] at hg
        rw [hn2] at hQ
        have hset := hQ.set (mixL (DM.keyRow k j (dotP2 ds[i])) Z (n + 1))
        rw [← mixL_set hrl (by omega), hg] at hset
        have hfull : mixL (DM.keyRow k j (dotP2 ds[i])) Z (n + 1) = DM.keyRow k j (dotP2 ds[i]) := mixL_all' hrl hZl
        have hset2 := hset.app [.free]
        rw [← hg, mixL_set hrl (by omega), hfull] at hset2
        have hmul := mulB (a := ds[i].Y) (b := DM.pw ds[i].X j) ⟨hY1, hY2⟩ (DM.pw_W _ _)
        obtain ⟨H4, hH4⟩ : ∃ H4, H4 = H3.set q (.live 1 ((DM.keyRow k j (dotP2 ds[i])).map eI)) ++ [.free] := ⟨_, rfl⟩
        have hst : ((mixL (DM.keyRow k j (dotP2 ds[i])) Z n).set n (ds[i].Y * DM.pw ds[i].X j % 65521)) = DM.keyRow k j (dotP2 ds[i]) := by
          have h := mixL_set hrl (k := n) (by omega)
          rw [hg, hfull] at h
          exact h
        rw [← hH4] at hset2
        have hbl := hset2.rw.lt.1
        repeat (any_goals (first | (refine d_RT ?_; (first | refine RT.nil ?_ | refine RT.new (s := H4.length) rfl (f_bsl (ps := [(0, .tmp 96)]) (sz := 1) (es := [[.ms q 0 (n + 1) (n + 1)]]) rfl) (H' := H4 ++ [.live 1 [[.ms q 0 (n + 1) (n + 1)]]]) rfl ?_ | refine RT.ap (s := H4.length + 1) (by simp) (f_appT (f := fun p => [.ms p 0 (n + 1) (n + 1)]) (o := qs) (v := [q]) (mm := i + 1) (by' := 24) rfl rfl (blk_app _ hset2.rw.rows) (List.take_of_length_le (by rw [List.length_map]; omega)) (by rw [List.length_map]; omega) (blk_at (t := 0) rfl rfl) hqs.symm rfl (by rw [hqs]; rfl) rfl (by decide) rfl rfl (fun _ => ⟨rfl, rfl⟩) (by rw [hqs]; simp; omega) (by rw [hqs]; simp; omega)) (ap2 hbl _ _) ?_ | refine RT.mvA ?_ | refine RT.asA ?_ | refine RT.bnA ?_)) | (refine d_VT ?_; (first | refine VT.seq rfl ?_ | refine VT.reg rfl ?_ | refine VT.draw [(1, [0]), (1, [0]), (1, [0]), (1, [0]), (1, [0]), (1, [0]), (1, [0]), (1, [0]), (1, [0]), (1, [0]), (1, [0]), (1, [0]), (1, [0]), (1, [0]), (1, [0]), (1, [0]), (1, [0]), (0, [0])] 2 mixedOk rfl (by decide +kernel) (by decide +kernel) (by decide +kernel) (by first | (simp only [nrm]; rfl) | (simp only [nrm, Nat.reduceAdd, Nat.zero_add]; rfl) | rfl) (by first | (simp only [nrm]; rfl) | (simp only [nrm, Nat.reduceAdd, Nat.zero_add]; rfl) | rfl) ?_ | refine VT.condN rfl rfl (by first | assumption | omega) ?_ | refine VT.exit rfl ?_)) | (refine d_PT ?_; (first | refine PT.vI (mask_app (H0 := H3) (T := [_, _]) rfl) (f_ixO0 (k := n) rfl rfl rfl (blk_app _ hQ.at_) rfl (by omega)) ?_ | refine PT.wrI (mask_app (H0 := H3) (T := [_, _]) rfl) (f_stW (k := n) rfl (blk_app _ hQ.at_) (by rw [mixL_len hrl (by omega)]; omega) rfl rfl) (List.set_append_left _ _ hql) ?_ | refine PT.done (H' := H4) (by rw [hH4]; refine (dropL2 _ _ _).trans ?_; rw [hst]) ?_ | refine PT.mvI ((mask_app (H0 := H3) (T := [_, _]) rfl)) ?_ | refine PT.ldI ((mask_app (H0 := H3) (T := [_, _]) rfl)) ?_ | refine PT.faI ((mask_app (H0 := H3) (T := [_, _]) rfl)) ?_ | refine PT.bnI ((mask_app (H0 := H3) (T := [_, _]) rfl)) ?_ | refine PT.callI ((mask_app (H0 := H3) (T := [_, _]) rfl)) rfl (m_rpower ⟨hX1, hX2⟩ j (by omega)) (by first | (simp only [nrm]; rfl) | (simp only [nrm, Nat.reduceAdd, Nat.zero_add]; rfl) | rfl) rfl ?_ | refine PT.ixI ((mask_app (H0 := H3) (T := [_, _]) rfl)) ?_)) | with_reducible (refine kLn ?_)))
        refine ⟨ds.length - (i + 1), by omega, _, _, ⟨i + 1, H4.length + 1, qs ++ [q], rfl, hlt, by simp [hqs], ?_, rfl, rfl⟩, Wk.keep (by (repeat first | exact True.intro | refine And.intro ?_ ?_ | exact Or.inr (Or.inl rfl) | exact Or.inl rfl | (refine DLe.i rfl ?_; omega) | (refine DLe.i rfl ?_; simp; done)))⟩
        have hM2 : ((ds.take (i + 1)).map dotP2).map (DM.keyRow k j) = M ++ [DM.keyRow k j (dotP2 ds[i])] := by
          rw [List.take_add_one, List.getElem?_eq_getElem hlt, List.map_append, List.map_append, ← hM]; rfl
        rw [hM2]
        exact hset2.done
  · obtain rfl : i = ds.length := by omega
    rw [List.take_length] at hR
    have hrl : ∀ r, r ∈ (ds.map dotP2).map (DM.keyRow k e) → r.length = n + 1 ∧ allW r := fun r hr => by
      obtain ⟨p, _, rfl⟩ := List.mem_map.1 hr
      exact ⟨by rw [DM.keyRow_len, hn], DM.keyRow_W k e p⟩
    have hsol := c_rsolved (n := n) (L := ds.length) hqs (by omega) (by omega) (by simp) hrl hR
    repeat (any_goals (first | (refine d_RT ?_; (first | refine RT.nil ?_ | (refine d_call ?_; refine RT.callG rfl (hsol.mono ?_)) | refine RT.mvA ?_ | refine RT.bnA ?_ | refine RT.clA ?_)) | (refine d_VT ?_; (first | refine VT.seq rfl ?_ | refine VT.reg rfl ?_ | refine VT.condN rfl rfl (by first | assumption | omega) ?_ | refine VT.exit rfl ?_))))
    rintro d H4 (⟨q, x, rfl, hq, hx, hxW⟩ | ⟨rfl, hno⟩)
    · have hxl : x.length = n := hx.1
      change RT _ _ _ _ ((102, D.tup [.ms q 0 n n, wB true]) :: _) _ _ _
      have hdl : (x.drop (k + e)).length = e := by rw [List.length_drop, hxl]; omega
      have al : (x.take (k + e)).length = k + e := by rw [List.length_take, hxl]; omega
      have bl : (x.drop (k + e) ++ [1]).length = e + 1 := by rw [List.length_append, hdl]; rfl
      have aW : allW (x.take (k + e)) := fun z hz => hxW z (List.mem_of_mem_take hz)
      have bW : allW (x.drop (k + e) ++ [1]) := fun z hz => by
        rcases List.mem_append.1 hz with h | h
        · exact hxW z (List.mem_of_mem_drop h)
        · rw [List.mem_singleton.1 h]; exact ⟨by decide, by decide⟩
      have mon : (x.drop (k + e) ++ [1]).getD e 0 = 1 := by
        rw [List.getD_eq_getElem?_getD, List.getElem?_append_right (by omega), hdl, Nat.sub_self]; rfl
      have hov := m_rdivided (k := k) (e := e) (by omega) al aW bl bW mon
      have hdv := DM.dv_ok al aW bl mon k (Nat.le_refl _)
      have hdec := DM.dec_yes (x := x) (ps := ds.map dotP2) (k := k) (e := e) (out := (DM.dvS k e (x.take (k + e)) (x.drop (k + e) ++ [1]) k).1) hA (by simpa using hke) (by omega) (by rw [hn] at hx; exact hx) hdv.ol hdv.oW hdv.rl hdv.rW (fun j hj => hdv.r0 j (by omega)) hdv.ev
      generalize DM.dvS k e (x.take (k + e)) (x.drop (k + e) ++ [1]) k = OR at hov hdec
      obtain ⟨O, R⟩ := OR
      simp only at hov hdec
      have hel : ∀ H : List Blk, H[q]? = some (.live 1 (x.map eI)) → elemsD H (.ms q (k + e) (n - (k + e)) (n - (k + e))) = some ((x.drop (k + e)).map eI) := fun H h => by
        simp only [elemsD, h]
        rw [if_pos (by simp; omega), List.take_of_length_le (by simp; omega), List.map_drop]
      have hq4 := blk_lt hq
      obtain ⟨r, hr, hrm⟩ : ∃ r, r = res ∧ Maps Tryz.prog 136 [.sl ((x.take (k + e)).map eI), .sl ((x.drop (k + e) ++ [1]).map eI)] r := by
        cases hB : R.all (fun n => decide (n = 0)) with
        | true =>
          rw [hdec.1 fun z hz => of_decide_eq_true (List.all_eq_true.1 hB z hz)] at hres
          exact ⟨_, hres.symm, hov.1 hB⟩
        | false =>
          rw [hdec.2 fun h => by rw [List.all_eq_true.2 fun z hz => decide_eq_true (h z hz)] at hB; cases hB] at hres
          exact ⟨_, hres.symm, hov.2 hB⟩
      have hrt : ∃ (y : List Int) (z : Bool), res = .tup [.fl (y.map eI), wB z] := by
        rw [hres]
        split
        · exact ⟨_, _, rfl⟩
        · exact ⟨[], _, rfl⟩
      obtain ⟨y, z, hyz⟩ := hrt
      rw [hr, hyz] at hrm
      repeat (any_goals (first | (refine d_RT ?_; (first | refine RT.nil ?_ | refine RT.mvA ?_ | refine RT.asA ?_ | refine RT.exA ?_ | refine RT.unA ?_)) | (refine d_VT ?_; (first | refine VT.drawS [] 0 [none, none, none, none, none, none, none, none, none, none, none, some 0, none, some 1, none, none, none, none, none] [(5, [0, 1, 2, 3, 4, 0, 1], none), (5, [0, 1, 2, 3, 4, 0, 1], none), (5, [0, 1, 2, 3, 4, 0, 1], none), (5, [0, 1, 2, 3, 4, 0, 1], none), (5, [0, 1, 2, 3, 4, 0, 1], none), (0, [0, 1, 2, 3, 4], none), (5, [0, 1, 2, 3, 4], none), (5, [0, 1, 2, 3, 4], none), (5, [0, 1, 2, 3, 4], none), (5, [0, 1, 2, 3, 4], none), (5, [0, 1, 2, 3, 4], none), (1, [1, 2, 3, 4], some 0), (2, [0, 1, 2, 3, 4, 0], none), (3, [3, 4], some 1), (4, [4], none), (5, [], none), (5, [], none), (5, [], none), (5, [], none)] 6 rfl (by simp) (by simp) mixedOk rfl (by decide +kernel) (by decide +kernel) (by decide +kernel) rfl (H1 := H4 ++ [.free, .free, .free, .free, .free, .free]) rfl ?_ | refine VT.seq rfl ?_ | refine VT.reg rfl ?_ | refine VT.condF rfl rfl ?_ | refine VT.skip rfl ?_ | refine VT.ret rfl ?_)) | (with_reducible refine d_kEr ?_; refine kEr rfl ?_) | (refine d_ST ?_; (first | refine ST.v (f_slHiO (k := k + e) rfl rfl (by omega) (by omega) rfl (mskR (blk_app _ hq) (by first | (simp [rho, -List.length_eq_zero_iff]; done) | (simp [rho, -List.length_eq_zero_iff]; omega)))) ?_ | refine ST.v (f_slLo0 (k := k + e) rfl rfl (by omega) (by omega) (by omega) rfl (mskR (blk_app _ hq) (by first | (simp [rho, -List.length_eq_zero_iff]; done) | (simp [rho, -List.length_eq_zero_iff]; omega)))) ?_ | refine ST.new rfl (s' := H4.length + 0) rfl (f_bsl (ps := []) (sz := 1) (es := []) rfl) (setLen (i := 0) (T' := [.live 1 [], .free, .free, .free, .free, .free]) rfl rfl) ?_ | refine ST.new rfl (s' := H4.length + 2) rfl (f_bslW1 rfl rfl rfl) (setLen (i := 2) (T' := [.dead, .live 1 ((x.drop (k + e)).map eI), .live 1 ([1].map eI), .free, .free, .free]) rfl rfl) ?_ | refine ST.ap (q := 0) (b := H4.length + 0) rfl rfl (s' := H4.length + 1) rfl (f_appE (f := eI) (o := []) (v := x.drop (k + e)) (mm := e) (by' := 8) rfl rfl (mskR (blk_at (t := 0) rfl rfl) (by first | (simp [rho, -List.length_eq_zero_iff]; done) | (simp [rho, -List.length_eq_zero_iff]; omega))) rfl (Nat.zero_le _) (hel _ (mskR (blk_app _ hq) (by first | (simp [rho, -List.length_eq_zero_iff]; done) | (simp [rho, -List.length_eq_zero_iff]; omega)))) rfl (by rw [hdl]; simp) rfl (by decide) rfl rfl (fun _ => ⟨rfl, rfl⟩) (by rw [hdl]; simp; omega) (by rw [hdl]; simp; omega)) (killSet (i := 0) (j := 1) (T'' := [.dead, .live 1 ((x.drop (k + e)).map eI), .free, .free, .free, .free]) rfl rfl rfl) ?_ | refine ST.ap (q := 1) (b := H4.length + 1) rfl rfl (s' := H4.length + 3) rfl (f_appT (f := eI) (o := x.drop (k + e)) (v := [1]) (mm := e + 1) (by' := 8) rfl rfl (mskR (blk_at (t := 1) rfl rfl) (by first | (simp [rho, -List.length_eq_zero_iff]; done) | (simp [rho, -List.length_eq_zero_iff]; omega))) (List.take_of_length_le (by rw [List.length_map, hdl]; exact Nat.le_refl _)) (by rw [List.length_map, hdl]; exact Nat.le_refl _) (mskR (blk_at (t := 2) rfl rfl) (by first | (simp [rho, -List.length_eq_zero_iff]; done) | (simp [rho, -List.length_eq_zero_iff]; omega))) hdl.symm rfl (by rw [hdl]; rfl) rfl (by decide) rfl rfl (fun _ => ⟨rfl, rfl⟩) (by rw [hdl]; simp; omega) (by rw [hdl]; simp; omega)) (killSet (i := 1) (j := 3) (T'' := [.dead, .dead, .live 1 ([1].map eI), .live 1 ((x.drop (k + e) ++ [1]).map eI), .free, .free]) rfl rfl rfl) ?_ | refine ST.callM rfl hrm (snap2 (snapWt (k := 4) (m := k + e) (mskR (blk_app _ hq) (by first | (simp [rho, -List.length_eq_zero_iff]; done) | (simp [rho, -List.length_eq_zero_iff]; omega))) (by omega)) (snapW (k := 4) (mskR (blk_at (t := 3) rfl rfl) (by first | (simp [rho, -List.length_eq_zero_iff]; done) | (simp [rho, -List.length_eq_zero_iff]; omega))) bl.symm)) rfl ?_ | refine ST.v (f_ext (d := .fl (y.map eI)) rfl rfl) ?_ | refine ST.v (f_ext (d := wB z) rfl rfl) ?_ | refine ST.v (f_as (d := .fl (y.map eI)) rfl) ?_ | refine ST.v (f_as (d := wB z) rfl) ?_ | refine ST.done (dropLn H4 [_, _, _, _, _] .free) ?_ | refine ST.mvA ?_ | refine ST.bnA ?_))))
      exact hyz.symm
    · have hnone : DM.decS k e (ds.map dotP2) = none := DM.dec_no (fun p hp => by obtain ⟨d, hd, rfl⟩ := List.mem_map.1 hp; exact (hW d hd).1.1) (by rw [hn] at hno; exact hno)
      rw [hnone] at hres
      change RT _ _ _ _ ((102, D.tup [.nil, wB false]) :: _) _ _ _
      repeat (any_goals (first | (refine d_RT ?_; (first | refine RT.nil ?_ | refine RT.v (f_ext (d := .nil) rfl rfl) ?_ | refine RT.mvA ?_ | refine RT.asA ?_ | refine RT.exA ?_ | refine RT.unA ?_)) | (refine d_VT ?_; (first | refine VT.seq rfl ?_ | refine VT.reg rfl ?_ | refine VT.condT rfl rfl ?_ | refine VT.ret rfl ?_)) | with_reducible (refine kSr ?_) | (with_reducible refine d_kEr ?_; refine kEr rfl ?_)))
      exact hres.symm
end Go.DL
