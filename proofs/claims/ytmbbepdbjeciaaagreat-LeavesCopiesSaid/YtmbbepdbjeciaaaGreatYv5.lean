/- Leaves copied, by number. -/
import Derived.Test.YtmbbepdbjeciaaaGreatYv2
import Derived.Test.YtmbbepdbjeciaaaGreatYv4
import Derived.Test.YtmbbepdbjeciaaaGreatP1
set_option maxRecDepth 100000
set_option maxHeartbeats 16000000
namespace Go.DL
open Go.Proofs Go
def sortLf (l : List Leaf) : List Leaf := l.mergeSort fun a b => decide (a.Number ≤ b.Number)
theorem sortLf_perm (l : List Leaf) : (sortLf l).Perm l := List.mergeSort_perm _ _
theorem sortLf_srt (l : List Leaf) : (sortLf l).Pairwise fun x y => x.Number ≤ y.Number := by
  have h := List.pairwise_mergeSort (le := fun a b : Leaf => decide (a.Number ≤ b.Number)) (fun a b c h1 h2 => by
    simp only [decide_eq_true_eq] at *; omega) (fun a b => by
    simp only [Bool.or_eq_true, decide_eq_true_eq]; omega) l
  exact h.imp fun h => by simpa using h
theorem sortLf_id {l : List Leaf} (h : l.Pairwise fun x y => x.Number < y.Number) : sortLf l = l :=
  (DM.srt_one (key := Leaf.Number) (h.imp fun h => by omega) (sortLf_srt l) (sortLf_perm l).symm (h.imp fun h => by omega)).symm
theorem m_copied (l : List Leaf) (hl : l.length ≤ 1000) (hw : ∀ x, x ∈ l → x.Words.length ≤ 1000) (hn : ∀ x, x ∈ l → 0 ≤ x.Number ∧ x.Number ≤ 1000) (hd : l.Pairwise fun x y => x.Number ≠ y.Number) :
    Maps Tryz.prog 116 [.sl (l.map eLeaf)] (.fl ((sortLf l).map eLeaf)) := by
  refine Maps.vt pok Tryz.f116 (n := 25) (rs := [.tmp 2]) rfl rfl rfl rfl rfl rfl fun g => ?_
  repeat (any_goals (first | (apply w_any; (first | refine RT.nil ?_ | refine RT.mvA ?_ | refine RT.asA ?_ | refine RT.clA ?_)) | (apply v_any; (first | refine VT.seq rfl ?_ | refine VT.reg rfl ?_ | refine VT.block rfl ?_))))
  refine VT.phantom (i := 3) (s := 0) 2 rfl rfl rfl ?_
  refine VT.loop (fun j a H g' => ∃ (i b : Nat) (ql : List (Nat × Leaf)), j = l.length - i ∧ i ≤ l.length ∧ OL 0 H b ql ∧ ql.map (·.2) = l.take i ∧ a = [(3, .ms b 0 i i), (6, .sl (l.map eLeaf)), (7, wI l.length), (8, wI i)] ∧ g' = g) rfl
    ⟨_, _, [.live 2 []], ⟨0, 0, [], rfl, Nat.zero_le _, ⟨rfl, Nat.le_refl _, fun i q h => by simp at h, fun i j q r h => by simp at h⟩, rfl, rfl, rfl⟩, Wk.keep (by (repeat first | exact True.intro | refine And.intro ?_ ?_ | exact Or.inr (Or.inl rfl) | exact Or.inl rfl | (refine DLe.i rfl ?_; omega) | (refine DLe.i rfl ?_; simp; done)))⟩ ?_
  rintro j a H g' ⟨i, b, ql, rfl, hi, hO, hq, rfl, rfl⟩
  have hqi : ql.length = i := by
    have := congrArg List.length hq
    rw [List.length_map, List.length_take] at this; omega
  have hrows := hO.rows
  have hbl := hO.lt
  by_cases hlt : i < l.length
  · have hwi := hw l[i] (List.getElem_mem hlt)
    obtain ⟨x, hx⟩ : ∃ x, x = l[i] := ⟨_, rfl⟩
    obtain ⟨H2, hH2⟩ : ∃ H2, H2 = (H ++ [Blk.live 2 [[wI 0, .nil]]]).set H.length (Blk.live 2 [eLeaf l[i]]) := ⟨_, rfl⟩
    have hrows2 : H2[b]? = some (.live 2 (ql.map eOL)) := by rw [hH2]; exact (by repeat (first | assumption | exact hg_new | exact hg_at (by first | rfl | simp) rfl | exact hg_self (by first | assumption | omega | (simp only [List.length_set, List.length_append, List.length_cons, List.length_nil, List.length_map, List.length_replicate]; omega)) | refine hg_app _ ?_ | refine hg_ne ?_ (by first | assumption | omega) | refine mskR ?_ (by first | (simp [rho, -List.length_eq_zero_iff]; done) | (simp [rho, -List.length_eq_zero_iff]; omega))))
    have hx2 : H2[H.length]? = some (.live 2 [eLeaf l[i]]) := by rw [hH2]; exact (by repeat (first | assumption | exact hg_new | exact hg_at (by first | rfl | simp) rfl | exact hg_self (by first | assumption | omega | (simp only [List.length_set, List.length_append, List.length_cons, List.length_nil, List.length_map, List.length_replicate]; omega)) | refine hg_app _ ?_ | refine hg_ne ?_ (by first | assumption | omega) | refine mskR ?_ (by first | (simp [rho, -List.length_eq_zero_iff]; done) | (simp [rho, -List.length_eq_zero_iff]; omega))))
    have hO2 : OL 0 H2 b ql := by
      rw [hH2]
      exact (hO.app [Blk.live 2 [[wI 0, .nil]]]).other (by omega) (fun i q hq => by have := hg_lt (hO.row i q hq).1; omega) _
    have hbl2 := hg_lt hrows2
    have hx2l := hg_lt hx2
    have hb0 := hO.kb
    repeat (any_goals (first | (apply w_any; (first | refine RT.nil ?_ | refine RT.mvA ?_ | refine RT.ldA ?_ | refine RT.bnA ?_ | refine RT.ixA ?_ | refine RT.wr (f_stA rfl (by repeat (first | assumption | exact hg_new | exact hg_at (by first | rfl | simp) rfl | exact hg_self (by first | assumption | omega | (simp only [List.length_set, List.length_append, List.length_cons, List.length_nil, List.length_map, List.length_replicate]; omega)) | refine hg_app _ ?_ | refine hg_ne ?_ (by first | assumption | omega) | refine mskR ?_ (by first | (simp [rho, -List.length_eq_zero_iff]; done) | (simp [rho, -List.length_eq_zero_iff]; omega)))) rfl rfl rfl rfl rfl (by first | decide | exact Nat.le_refl _) rfl) (Eq.trans rfl hH2.symm) ?_ | refine RT.new (s := H.length) rfl (f_allocL (z := [wI 0, .nil]) (m := 2) rfl rfl) rfl ?_)) | (apply v_any; (first | refine VT.seq rfl ?_ | refine VT.reg rfl ?_ | refine VT.block rfl ?_ | refine VT.skip rfl ?_ | refine VT.drawS [b] 1 [none, none, none, none, none, none, none, none, some 0, none] [(3, [1, 2, 3], none), (3, [1, 2, 3], none), (3, [1, 2, 3], none), (3, [1, 2, 3], none), (3, [1, 2, 3], none), (0, [1, 2, 3], none), (3, [2, 3], none), (1, [2, 3], none), (2, [3], some 0), (3, [], none)] 4 rfl (by first | (simp; done) | (simp; omega)) (by first | (simp; done) | (simp; omega)) mixedOk rfl (by decide +kernel) (by decide +kernel) (by decide +kernel) rfl (H1 := H2 ++ [.free, .free, .free, .free]) rfl ?_ | refine VT.condY rfl rfl (by first | assumption | omega) ?_)) | (apply s_any; (first | refine ST.done (dropLn (H2.set b .dead) [_, _, _] .free) ?_ | refine ST.mvA ?_ | refine ST.asA ?_ | refine ST.ldH ?_ | refine ST.faA ?_ | (apply s_cl; (first | refine ST.callAt rfl (s' := H2.length + 0) rfl (CallAt.of (off := 0) (len := l[i].Words.length) (cap := l[i].Words.length) (sz := 1) (es := l[i].Words.map eI) (fun H hsub => c_clone (o := l[i].Words) (.inr (.inl ⟨_, rfl⟩)) (elems_sl _ _) (by omega)) (eI_low _ _)) (setLen (i := 0) (T' := [.live 1 (l[i].Words.map eI), .free, .free, .free]) rfl rfl) ?_ | refine ST.ap (q := 0) (b := b) rfl rfl (s' := H2.length + 2) rfl (f_appT (f := eOL) (o := ql) (v := [(H2.length + 0, l[i])]) (mm := i + 1) (by' := 32) rfl rfl (by repeat (first | assumption | exact hg_new | exact hg_at (by first | rfl | simp) rfl | exact hg_self (by first | assumption | omega | (simp only [List.length_set, List.length_append, List.length_cons, List.length_nil, List.length_map, List.length_replicate]; omega)) | refine hg_app _ ?_ | refine hg_ne ?_ (by first | assumption | omega) | refine mskR ?_ (by first | (simp [rho, -List.length_eq_zero_iff]; done) | (simp [rho, -List.length_eq_zero_iff]; omega)))) (List.take_of_length_le (by rw [List.length_map]; omega)) (by rw [List.length_map]; omega) (by repeat (first | assumption | exact hg_new | exact hg_at (by first | rfl | simp) rfl | exact hg_self (by first | assumption | omega | (simp only [List.length_set, List.length_append, List.length_cons, List.length_nil, List.length_map, List.length_replicate]; omega)) | refine hg_app _ ?_ | refine hg_ne ?_ (by first | assumption | omega) | refine mskR ?_ (by first | (simp [rho, -List.length_eq_zero_iff]; done) | (simp [rho, -List.length_eq_zero_iff]; omega)))) hqi.symm rfl (by simp [hqi]) rfl (by decide) rfl rfl (fun _ => ⟨rfl, rfl⟩) (by simp; omega) (by simp; omega)) (killLen (T' := [.live 1 (l[i].Words.map eI), .live 2 [eOL (H2.length + 0, l[i])], .live 2 ((ql ++ [(H2.length + 0, l[i])]).map eOL), .free]) hbl2 rfl rfl) ?_)) | refine ST.new rfl (s' := H2.length + 1) rfl (f_bslA1 rfl rfl rfl rfl rfl rfl) (setLen (i := 1) (T' := [.live 1 (l[i].Words.map eI), .live 2 [eOL (H2.length + 0, l[i])], .free, .free]) rfl rfl) ?_ | refine ST.v (f_build (d := .agg [wI l[i].Number, .ms (H2.length + 0) 0 l[i].Words.length l[i].Words.length]) rfl) ?_)) | with_reducible (refine kLn ?_)))
    refine ⟨l.length - (i + 1), by omega, _, _, ⟨i + 1, H2.length + 2, ql ++ [(H2.length + 0, l[i])], rfl, hlt, hO2.push (t := 0) (t' := 2) (by omega) (by decide) rfl rfl, ?_, rfl, rfl⟩, Wk.keep (by (repeat first | exact True.intro | refine And.intro ?_ ?_ | exact Or.inr (Or.inl rfl) | exact Or.inl rfl | (refine DLe.i rfl ?_; omega) | (refine DLe.i rfl ?_; simp; done)))⟩
    rw [List.map_append, hq, List.take_add_one, List.getElem?_eq_getElem hlt]; rfl
  · obtain rfl : i = l.length := by omega
    rw [List.take_length] at hq
    rw [← hqi]
    repeat (any_goals (first | (apply w_any; (first | refine RT.nil ?_ | refine RT.mvA ?_ | refine RT.bnA ?_ | (refine d_call ?_; refine RT.callG rfl ((c_sortLf (cap := ql.length) hrows (by omega) (fun q hq2 => hn q.2 (by rw [← hq]; exact List.mem_map.2 ⟨q, hq2, rfl⟩))).mono ?_)))) | (apply v_any; (first | refine VT.seq rfl ?_ | refine VT.reg rfl ?_ | refine VT.exit rfl ?_ | refine VT.condN rfl rfl (by first | assumption | omega) ?_))))
    rintro d H4 ⟨rfl, y, hy, hp, rfl⟩
    change RT _ _ _ _ ((23, D.tup []) :: _) _ _ _
    repeat (any_goals (first | (apply w_any; (first | refine RT.nil ?_ | refine RT.mvA ?_ | refine RT.asA ?_)) | (apply v_any; (first | refine VT.seq rfl ?_ | refine VT.reg rfl ?_ | refine VT.ret rfl ?_)) | (with_reducible refine d_kEr ?_; refine kEr rfl ?_)))
    have hyr : ∀ q, q ∈ y → (H.set b (.live 2 (y.map eOL)))[q.1]? = some (.live 1 (q.2.Words.map eI)) := fun q hq2 => by
      obtain ⟨k, hk, hkq⟩ := List.getElem_of_mem (hp.subset hq2)
      obtain ⟨r1, _, r3⟩ := hO.row k q (by rw [List.getElem?_eq_getElem hk, hkq])
      exact hg_ne r1 (Ne.symm r3)
    have e1 := snapR_OL (lk := fun k => (H.set b (.live 2 (y.map eOL)))[k]?) (b := b) (n := ql.length) (hg_self hbl) hyr hp.length_eq.symm 2
    refine Eq.trans e1 (congrArg (fun x : List Leaf => D.fl (x.map eLeaf)) ?_)
    have hpl : (y.map (·.2)).Perm l := by have := hp.map (fun q : Nat × Leaf => q.2); rwa [hq] at this
    exact (DM.srt_one (key := Leaf.Number) (sortLf_srt l) (List.pairwise_map.2 hy) ((sortLf_perm l).trans hpl.symm) (((sortLf_perm l).pairwise_iff (fun h => Ne.symm h)).2 hd)).symm
end Go.DL
