/- Merge of both programs. -/
import Derived.Test.YtmbbepdbjeciaaaGreatYa9
set_option maxRecDepth 100000
set_option maxHeartbeats 16000000
namespace Go.DL
open Go.Proofs Go
def MergeS (a b : List Line) : List Line × Int := if lined a b = 0 then (if forkW a b = [] then (if 60 < (dd (sortL (a ++ b))).length then ([], 2) else (dd (sortL (a ++ b)), 0)) else ([], 9)) else ([], lined a b)
theorem nofk_of {a b : List Line} (ha : LinesOk a) (hb : LinesOk b) (h : forkW a b = []) : NoFk (a ++ b) := by
  have key : ∀ x, x ∈ a → ∀ y, y ∈ b → x.ID = y.ID → x = y := fun x hx y hy e => by
    have h1 : fkB a y = false := by
      rw [← Bool.not_eq_true]
      intro h2
      have : y.ID ∈ forkW a b := List.mem_map.2 ⟨y, List.mem_filter.2 ⟨hy, h2⟩, rfl⟩
      rw [h] at this; cases this
    unfold fkB at h1
    cases hf : a.find? (fun x => decide (x.ID = y.ID)) with
    | none => exact absurd e (by simpa using List.find?_eq_none.1 hf x hx)
    | some x' =>
      rw [hf] at h1
      have h3 : x'.ID = y.ID := by simpa using List.find?_some hf
      have h4 := pair_eq ha.2.2 (List.mem_of_find?_eq_some hf) hx (h3.trans e.symm)
      subst h4
      have : y = x' := by simpa using h1
      exact this.symm
  intro x hx y hy e
  rcases List.mem_append.1 hx with hx | hx
  · rcases List.mem_append.1 hy with hy | hy
    · exact pair_eq ha.2.2 hx hy e
    · exact key x hx y hy e
  · rcases List.mem_append.1 hy with hy | hy
    · exact (key y hy x hx e.symm).symm
    · exact pair_eq hb.2.2 hx hy e
theorem LinesOk.nodup {l : List Line} (h : LinesOk l) : l.Nodup := h.2.2.imp fun h e => h (by rw [e])
theorem dd_srt {l : List Line} (h : LSrt l) : LSrt (dd l) := h.sublist (dd_sub l)
def inB (a : List Line) (y : Line) : Bool := a.any fun x => decide (x = y)
theorem merge_perm {a b : List Line} (ha : LinesOk a) (hb : LinesOk b) (h : forkW a b = []) : (a ++ b.filter (fun y => !inB a y)).Perm (dd (sortL (a ++ b))) := by
  have hn := nofk_of ha hb h
  have hs := sortL_perm (a ++ b)
  have hn2 : NoFk (sortL (a ++ b)) := fun x hx y hy => hn x (hs.mem_iff.1 hx) y (hs.mem_iff.1 hy)
  refine (List.perm_ext_iff_of_nodup (List.nodup_append.2 ⟨ha.nodup, hb.nodup.sublist List.filter_sublist, fun x hx y hy e => ?_⟩) (dd_nodup _ (sortL_srt _) hn2)).2 fun z => ?_
  · subst e
    have := (List.mem_filter.1 hy).2
    have h2 : inB a x = true := List.any_eq_true.2 ⟨x, hx, decide_eq_true rfl⟩
    rw [h2] at this; cases this
  · constructor
    · intro hz
      refine dd_mem _ (hs.mem_iff.2 ?_)
      rcases List.mem_append.1 hz with hz | hz
      · exact List.mem_append_left _ hz
      · exact List.mem_append_right _ (List.mem_filter.1 hz).1
    · intro hz
      have hz2 := hs.mem_iff.1 ((dd_sub _).subset hz)
      by_cases hza : z ∈ a
      · exact List.mem_append_left _ hza
      · refine List.mem_append_right _ (List.mem_filter.2 ⟨(List.mem_append.1 hz2).resolve_left hza, ?_⟩)
        have : inB a z = false := by
          rw [← Bool.not_eq_true]; intro h2
          obtain ⟨x, hx, e⟩ := List.any_eq_true.1 h2
          have : x = z := by simpa using e
          exact hza (this ▸ hx)
        rw [this]; rfl
theorem merge_one {a b z o : List Line} (ha : LinesOk a) (hb : LinesOk b) (h : forkW a b = []) (ho : o = a ++ b.filter (fun y => !inB a y)) (hz : LSrt z) (hp : z.Perm o) : z = dd (sortL (a ++ b)) := by
  subst ho
  have hp2 := hp.trans (merge_perm ha hb h)
  have hn := nofk_of ha hb h
  refine hp2.eq_of_pairwise (fun x y hx hy h1 h2 => ?_) hz (dd_srt (sortL_srt _))
  have e1 : ∀ w, w ∈ dd (sortL (a ++ b)) → w ∈ a ++ b := fun w hw => (sortL_perm _).mem_iff.1 ((dd_sub _).subset hw)
  exact hn x (e1 x (hp2.mem_iff.1 hx)) y (e1 y hy) (by unfold LLe at h1 h2; omega)
theorem m_Merge (a b : List Line) (hl : a.length ≤ 4611686018427387904) (hl' : b.length ≤ 4611686018427387904) : Maps Tryz.prog 49 [.sl (a.map eLine), .sl (b.map eLine)] (.tup [.fl ((MergeS a b).1.map eLine), wI (MergeS a b).2]) := by
  refine Maps.vt pok Tryz.f49 (n := 29) (rs := [.tmp 4, .tmp 5]) rfl rfl rfl rfl rfl rfl fun g => ?_
  have hd := m_lined a b hl hl'
  unfold MergeS
  by_cases h : lined a b = 0
  · obtain ⟨ha, hb⟩ := lined_ok h
    have hm := m_forks a b ha (by have := hb.1; omega)
    have hal := ha.1
    have hbl := hb.1
    rw [h] at hd
    rw [if_pos h]
    by_cases hk : forkW a b = []
    · have hms : sortI (forkW a b) = [] := by rw [hk]; simp
      rw [hms] at hm
      rw [if_pos hk]
      have hn := nofk_of ha hb hk
      have hfl : [a, b].flatten = a ++ b := by simp
      have hcc := c_concatL (H := [.live 1 [eLs a, eLs b]]) (x := .ms 0 0 2 2) [a, b] rfl (by simp) (by simp) (by rw [hfl, List.length_append]; omega)
      rw [hfl] at hcc
      have hsl := sortL_len (a ++ b)
      have hab : (a ++ b).length ≤ 120 := by rw [List.length_append]; omega
      repeat (any_goals (first | (apply w_any; (first | refine RT.nil ?_ | refine RT.mvA ?_ | refine RT.asA ?_ | (apply w_bn; (first | refine RT.v (f_gtrF rfl rfl (by simp)) ?_ | refine RT.bnA ?_)) | (apply w_cl; (first | (refine d_call ?_; refine RT.callS rfl hcc rfl (d2 := .ms 2 0 (a ++ b).length (a ++ b).length) rfl (H2 := [.live 1 [eLs a, eLs b], .dead, .live 4 ((a ++ b).map eLine)]) rfl ?_) | (refine d_call ?_; refine RT.callG rfl ((c_sortedL (H := [.live 1 [eLs a, eLs b], .dead, .live 4 ((a ++ b).map eLine)]) (x := .ms 2 0 (a ++ b).length (a ++ b).length) (l := a ++ b) (.inr (.inr (.inr ⟨_, _, _, _, rfl⟩))) ((elems_take (l := a ++ b) (sz := 4) rfl (Nat.le_refl _)).trans (by rw [List.take_length])) (by omega)).mono ?_)) | refine RT.callM rfl (hd) rfl rfl ?_ | refine RT.callM rfl (hm) rfl rfl ?_ | refine RT.clA ?_)) | refine RT.new (s := 0) rfl (f_bsl (sz := 1) (es := [eLs a, eLs b]) rfl) rfl ?_)) | (apply v_any; (first | refine VT.seq rfl ?_ | refine VT.reg rfl ?_ | refine VT.condF rfl rfl ?_ | refine VT.skip rfl ?_))))
      rintro d H4 ⟨rfl, y, hy, hp, rfl⟩
      change RT _ _ _ _ ((23, D.ms 4 0 (a ++ b).length (a ++ b).length) :: _) _ _ _
      obtain rfl := sortL_one hn hy hp
      have hcm := c_compactL (H := [.live 1 [eLs a, eLs b], .dead, .live 4 ((a ++ b).map eLine)] ++ [.dead, .live 4 ((sortL (a ++ b)).map eLine)]) (b := 4) (c := (a ++ b).length) (l := sortL (a ++ b)) rfl (by omega) (by omega)
      rw [hsl] at hcm
      repeat (any_goals (first | (refine d_call ?_; refine RT.callG rfl (hcm.mono ?_))))
      rintro d H5 ⟨z, F, rfl, rfl, h1, h2, h3⟩
      change RT _ _ _ _ ((24, D.ms 4 0 _ _) :: _) _ _ _
      by_cases h60 : 60 < (dd (sortL (a ++ b))).length
      · rw [if_pos h60]
        repeat (any_goals (first | (apply w_any; (first | refine RT.nil ?_ | refine RT.mvA ?_ | refine RT.asA ?_ | refine RT.v (f_gtrT rfl rfl (by omega)) ?_ | refine RT.clA ?_)) | (apply v_any; (first | refine VT.seq rfl ?_ | refine VT.reg rfl ?_ | refine VT.condT rfl rfl ?_ | refine VT.ret rfl ?_)) | with_reducible (refine kSr ?_) | (with_reducible refine d_kEr ?_; refine kEr rfl ?_)))
        rfl
      · rw [if_neg h60]
        repeat (any_goals (first | (apply w_any; (first | refine RT.nil ?_ | refine RT.mvA ?_ | refine RT.asA ?_ | refine RT.v (f_gtrF rfl rfl (by omega)) ?_ | refine RT.clA ?_)) | (apply v_any; (first | refine VT.seq rfl ?_ | refine VT.reg rfl ?_ | refine VT.condF rfl rfl ?_ | refine VT.skip rfl ?_ | refine VT.ret rfl ?_)) | (with_reducible refine d_kEr ?_; refine kEr rfl ?_)))
        exact congrArg (fun x => DL.D.tup [x, wI 0]) (snapRL5 (k := 3) h1 rfl h2 h3)
    · rw [if_neg hk]
      have hpos : 0 < (sortI (forkW a b)).length := by
        rw [List.length_mergeSort]
        exact List.length_pos_iff.2 hk
      repeat (any_goals (first | (apply w_any; (first | refine RT.nil ?_ | refine RT.mvA ?_ | refine RT.asA ?_ | (apply w_bn; (first | refine RT.v (f_gtrT rfl rfl (by omega)) ?_ | refine RT.bnA ?_)) | (apply w_cl; (first | refine RT.callM rfl (hd) rfl rfl ?_ | refine RT.callM rfl (hm) rfl rfl ?_ | refine RT.clA ?_)))) | (apply v_any; (first | refine VT.seq rfl ?_ | refine VT.reg rfl ?_ | refine VT.condT rfl rfl ?_ | refine VT.condF rfl rfl ?_ | refine VT.skip rfl ?_ | refine VT.ret rfl ?_)) | with_reducible (refine kSr ?_) | (with_reducible refine d_kEr ?_; refine kEr rfl ?_)))
      rfl
  · rw [if_neg h]
    repeat (any_goals (first | (apply w_any; (first | refine RT.nil ?_ | refine RT.mvA ?_ | refine RT.asA ?_ | refine RT.bnA ?_ | refine RT.callM rfl (hd) rfl rfl ?_)) | (apply v_any; (first | refine VT.seq rfl ?_ | refine VT.reg rfl ?_ | refine VT.ret rfl ?_ | refine VT.condY rfl rfl (by first | assumption | omega) ?_)) | with_reducible (refine kSr ?_) | (with_reducible refine d_kEr ?_; refine kEr rfl ?_)))
    rfl
end Go.DL
