/- Merge of both programs. -/
import Derived.Test.YtmbbepdbjeciaaaGreatYa8
set_option maxRecDepth 100000
set_option maxHeartbeats 16000000
namespace Go.DL
open Go.Proofs Go
def MergeS (a b : List Line) : List Line × Int := if lined a b = 0 then (if forkW a b = [] then (if 60 < (dd (sortL (a ++ b))).length then ([], 2) else (dd (sortL (a ++ b)), 0)) else ([], 9)) else ([], lined a b)
theorem nofk_of {a b : List Line} (ha : LinesOk a) (hb : LinesOk b) (h : forkW a b = []) : NoFk (a ++ b) := by
  have key : ∀ x, x ∈ a → ∀ y, y ∈ b → x.ID = y.ID → x = y := fun x hx y hy e => by
    have h1 : fkB a y = false := by
      rw [← Bool.not_eq_true]
      intro h2
      have : y.ID ∈ forkW a b := List.mem_map.2 ⟨y, List.mem_filter.2 ⟨hy, h2⟩, rfl⟩
      rw [h] at this; cases this
    unfold fkB at h1
    cases hf : a.find? (fun x => decide (x.ID = y.ID)) with
    | none => exact absurd e (by simpa using List.find?_eq_none.1 hf x hx)
    | some x' =>
      rw [hf] at h1
      have h3 : x'.ID = y.ID := by simpa using List.find?_some hf
      have h4 := pair_eq ha.2.2 (List.mem_of_find?_eq_some hf) hx (h3.trans e.symm)
      subst h4
      have : y = x' := by simpa using h1
      exact this.symm
  intro x hx y hy e
  rcases List.mem_append.1 hx with hx | hx
  · rcases List.mem_append.1 hy with hy | hy
    · exact pair_eq ha.2.2 hx hy e
    · exact key x hx y hy e
  · rcases List.mem_append.1 hy with hy | hy
    · exact (key y hy x hx e.symm).symm
    · exact pair_eq hb.2.2 hx hy e
theorem LinesOk.nodup {l : List Line} (h : LinesOk l) : l.Nodup := h.2.2.imp fun h e => h (by rw [e])
theorem dd_srt {l : List Line} (h : LSrt l) : LSrt (dd l) := h.sublist (dd_sub l)
def inB (a : List Line) (y : Line) : Bool := a.any fun x => decide (x = y)
theorem m_Merge (a b : List Line) (hl : a.length ≤ 4611686018427387904) (hl' : b.length ≤ 4611686018427387904) : Maps Tryz.prog 49 [.sl (a.map eLine), .sl (b.map eLine)] (.tup [.fl ((MergeS a b).1.map eLine), wI (MergeS a b).2]) := by
  refine Maps.vt pok Tryz.f49 (n := 29) (rs := [.tmp 4, .tmp 5]) rfl rfl rfl rfl rfl rfl fun g => ?_
  have hd := m_lined a b hl hl'
  unfold MergeS
  by_cases h : lined a b = 0
  · obtain ⟨ha, hb⟩ := lined_ok h
    have hm := m_forks a b ha (by have := hb.1; omega)
    have hal := ha.1
    have hbl := hb.1
    rw [h] at hd
    rw [if_pos h]
    by_cases hk : forkW a b = []
    · have hms : sortI (forkW a b) = [] := by rw [hk]; simp
      rw [hms] at hm
      rw [if_pos hk]
      have hn := nofk_of ha hb hk
      have hfl : [a, b].flatten = a ++ b := by simp
      have hcc := c_concatL (H := [.live 1 [eLs a, eLs b]]) (x := .ms 0 0 2 2) [a, b] rfl (by simp) (by simp) (by rw [hfl, List.length_append]; omega)
      rw [hfl] at hcc
      have hsl := sortL_len (a ++ b)
      have hab : (a ++ b).length ≤ 120 := by rw [List.length_append]; omega
      repeat (any_goals (first | (apply w_any; (first | refine RT.nil ?_ | refine RT.mvA ?_ | refine RT.asA ?_ | (apply w_bn; (first | refine RT.v (f_gtrF rfl rfl (by simp)) ?_ | refine RT.bnA ?_)) | (apply w_cl; (first | (refine d_call ?_; refine RT.callS rfl hcc rfl (d2 := .ms 2 0 (a ++ b).length (a ++ b).length) rfl (H2 := [.live 1 [eLs a, eLs b], .dead, .live 4 ((a ++ b).map eLine)]) rfl ?_) | (refine d_call ?_; refine RT.callG rfl ((c_sortedL (H := [.live 1 [eLs a, eLs b], .dead, .live 4 ((a ++ b).map eLine)]) (x := .ms 2 0 (a ++ b).length (a ++ b).length) (l := a ++ b) (.inr (.inr (.inr ⟨_, _, _, _, rfl⟩))) ((elems_take (l := a ++ b) (sz := 4) rfl (Nat.le_refl _)).trans (by rw [List.take_length])) (by omega)).mono ?_)) | refine RT.callM rfl (hd) rfl rfl ?_ | refine RT.callM rfl (hm) rfl rfl ?_ | refine RT.clA ?_)) | refine RT.new (s := 0) rfl (f_bsl (sz := 1) (es := [eLs a, eLs b]) rfl) rfl ?_)) | (apply v_any; (first | refine VT.seq rfl ?_ | refine VT.reg rfl ?_ | refine VT.condF rfl rfl ?_ | refine VT.skip rfl ?_))))
      rintro d H4 ⟨rfl, y, hy, hp, rfl⟩
      change RT _ _ _ _ ((23, D.ms 4 0 (a ++ b).length (a ++ b).length) :: _) _ _ _
      obtain rfl := sortL_one hn hy hp
      have hcm := c_compactL (H := [.live 1 [eLs a, eLs b], .dead, .live 4 ((a ++ b).map eLine)] ++ [.dead, .live 4 ((sortL (a ++ b)).map eLine)]) (b := 4) (c := (a ++ b).length) (l := sortL (a ++ b)) rfl (by omega) (by omega)
      rw [hsl] at hcm
      repeat (any_goals (first | (refine d_call ?_; refine RT.callG rfl (hcm.mono ?_))))
      rintro d H5 ⟨z, F, rfl, rfl, h1, h2, h3⟩
      change RT _ _ _ _ ((24, D.ms 4 0 _ _) :: _) _ _ _
      by_cases h60 : 60 < (dd (sortL (a ++ b))).length
      · rw [if_pos h60]
        repeat (any_goals (first | (apply w_any; (first | refine RT.nil ?_ | refine RT.mvA ?_ | refine RT.asA ?_ | refine RT.v (f_gtrT rfl rfl (by omega)) ?_ | refine RT.clA ?_)) | (apply v_any; (first | refine VT.seq rfl ?_ | refine VT.reg rfl ?_ | refine VT.condT rfl rfl ?_ | refine VT.ret rfl ?_)) | with_reducible (refine kSr ?_) | (with_reducible refine d_kEr ?_; refine kEr rfl ?_)))
        rfl
      · rw [if_neg h60]
        repeat (any_goals (first | (apply w_any; (first | refine RT.nil ?_ | refine RT.mvA ?_ | refine RT.asA ?_ | refine RT.v (f_gtrF rfl rfl (by omega)) ?_ | refine RT.clA ?_)) | (apply v_any; (first | refine VT.seq rfl ?_ | refine VT.reg rfl ?_ | refine VT.condF rfl rfl ?_ | refine VT.skip rfl ?_ | refine VT.ret rfl ?_)) | (with_reducible refine d_kEr ?_; refine kEr rfl ?_)))
        exact congrArg (fun x => DL.D.tup [x, wI 0]) (snapRL5 (k := 3) h1 rfl h2 h3)
    · rw [if_neg hk]
      have hpos : 0 < (sortI (forkW a b)).length := by
        rw [List.length_mergeSort]
        exact List.length_pos_iff.2 hk
      repeat (any_goals (first | (apply w_any; (first | refine RT.nil ?_ | refine RT.mvA ?_ | refine RT.asA ?_ | (apply w_bn; (first | refine RT.v (f_gtrT rfl rfl (by omega)) ?_ | refine RT.bnA ?_)) | (apply w_cl; (first | refine RT.callM rfl (hd) rfl rfl ?_ | refine RT.callM rfl (hm) rfl rfl ?_ | refine RT.clA ?_)))) | (apply v_any; (first | refine VT.seq rfl ?_ | refine VT.reg rfl ?_ | refine VT.condT rfl rfl ?_ | refine VT.condF rfl rfl ?_ | refine VT.skip rfl ?_ | refine VT.ret rfl ?_)) | with_reducible (refine kSr ?_) | (with_reducible refine d_kEr ?_; refine kEr rfl ?_)))
      rfl
  · rw [if_neg h]
    repeat (any_goals (first | (apply w_any; (first | refine RT.nil ?_ | refine RT.mvA ?_ | refine RT.asA ?_ | refine RT.bnA ?_ | refine RT.callM rfl (hd) rfl rfl ?_)) | (apply v_any; (first | refine VT.seq rfl ?_ | refine VT.reg rfl ?_ | refine VT.ret rfl ?_ | refine VT.condY rfl rfl (by first | assumption | omega) ?_)) | with_reducible (refine kSr ?_) | (with_reducible refine d_kEr ?_; refine kEr rfl ?_)))
    rfl
end Go.DL
