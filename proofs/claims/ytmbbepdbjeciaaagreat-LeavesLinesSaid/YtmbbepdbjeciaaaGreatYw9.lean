/- The law: lines. -/
import Derived.Test.YtmbbepdbjeciaaaGreatYw8
set_option maxRecDepth 100000
set_option maxHeartbeats 16000000
namespace Go.DL
open Go.Proofs Go
theorem ReadS_small (s : Shape) (d : List (List Int)) : (ReadS s d).1.length ≤ 1000 := by
  unfold ReadS
  split
  · split
    · split
      · decide
      · rename_i h
        split
        · show (linesOf _ _).length ≤ 1000
          rw [linesOf_len]; omega
        · decide
    · decide
  · decide
theorem m_LeavesLines (hh : Maps Tryz.prog 14 [] (wB true)) (s : Shape) (l : List Line) (d : List (List Int)) (hl : l.length ≤ 4611686018427387904) (hdl : d.length ≤ 4611686018427387904) (hdw : ∀ x, x ∈ d → x.length ≤ 4611686018427387904) :
    Maps Tryz.prog 6 [dSh s, .sl (l.map eLine), .sl (d.map eRow)] (wB true) := by
  refine Maps.vt pok Tryz.f6 (n := 83) (rs := [.tmp 6]) rfl rfl rfl rfl rfl rfl fun g => ?_
  have h1 := m_small1 s
  have h2 := m_lines l hl
  have h3 := m_rows d hdl
  cases q1 : SmallS s with
  | false =>
    rw [q1] at h1
    repeat (any_goals (first | (apply w_any; (first | refine RT.nil ?_ | refine RT.gn rfl rfl ?_ | refine RT.mvA ?_ | refine RT.asA ?_ | refine RT.ldA ?_ | (apply w_cl; (first | refine RT.callM rfl (hh) rfl rfl ?_ | refine RT.callM rfl (h1) rfl rfl ?_)) | refine RT.pkA ?_ | refine RT.unA ?_ | refine RT.nwA ?_)) | (apply v_any; (first | refine VT.seq rfl ?_ | refine VT.reg rfl ?_ | refine VT.condT rfl rfl ?_ | refine VT.ret rfl ?_)) | with_reducible (refine kSr ?_) | (with_reducible refine d_kEr ?_; refine kEr rfl ?_)))
    rfl
  | true =>
    rw [q1] at h1
    cases q2 : linesS l with
    | false =>
      rw [q2] at h2
      repeat (any_goals (first | (apply w_any; (first | refine RT.nil ?_ | (apply w_g; (first | refine RT.gy rfl ?_ | refine RT.gn rfl rfl ?_)) | refine RT.mvA ?_ | refine RT.asA ?_ | refine RT.ldA ?_ | (apply w_cl; (first | refine RT.callM rfl (hh) rfl rfl ?_ | refine RT.callM rfl (h1) rfl rfl ?_ | refine RT.callM rfl (h2) rfl rfl ?_)) | refine RT.pkA ?_ | refine RT.unA ?_ | refine RT.nwA ?_)) | (apply v_any; (first | refine VT.seq rfl ?_ | refine VT.reg rfl ?_ | refine VT.condT rfl rfl ?_ | refine VT.ret rfl ?_)) | with_reducible (refine kSr ?_) | (with_reducible refine d_kEr ?_; refine kEr rfl ?_)))
      rfl
    | true =>
      rw [q2] at h2
      cases q3 : rowsS d with
      | false =>
        rw [q3] at h3
        repeat (any_goals (first | (apply w_any; (first | refine RT.nil ?_ | refine RT.gy rfl ?_ | refine RT.mvA ?_ | refine RT.asA ?_ | refine RT.ldA ?_ | (apply w_cl; (first | refine RT.callM rfl (hh) rfl rfl ?_ | refine RT.callM rfl (h1) rfl rfl ?_ | refine RT.callM rfl (h2) rfl rfl ?_ | refine RT.callM rfl (h3) rfl rfl ?_)) | refine RT.pkA ?_ | refine RT.unA ?_ | refine RT.nwA ?_)) | (apply v_any; (first | refine VT.seq rfl ?_ | refine VT.reg rfl ?_ | refine VT.condT rfl rfl ?_ | refine VT.ret rfl ?_)) | with_reducible (refine kSr ?_) | (with_reducible refine d_kEr ?_; refine kEr rfl ?_)))
        rfl
      | true =>
        rw [q3] at h3
        have a1 := m_Write s l hl
        have a2 := m_RWrite s l hl
        have b1 := m_Read s d hdl hdw
        have b2 := m_RRead s d hdl hdw
        obtain ⟨z1, z2⟩ := WriteS_small s l
        have z3 := ReadS_small s d
        generalize WriteS s l = A at a1 a2 z1 z2
        generalize ReadS s d = B at b1 b2 z3
        obtain ⟨A1, A2⟩ := A
        obtain ⟨B1, B2⟩ := B
        dsimp only at a1 a2 b1 b2 z1 z2 z3
        have c1 := m_sameRowsG A1 A1 (by omega) (by omega) (fun x hx => by have := z2 x hx; omega) (fun x hx => by have := z2 x hx; omega)
        have c2 := m_SameLines B1 B1 (by omega) (by omega)
        rw [decide_eq_true rfl] at c1 c2
        have e1 := m_CheckLines l hl
        have e2 := m_RCheckLines l hl
        repeat (any_goals (first | (apply w_any; (first | refine RT.nil ?_ | (apply w_g; (first | refine RT.gy rfl ?_ | refine RT.gcY rfl rfl rfl (by first | assumption | omega) ?_)) | refine RT.mvA ?_ | refine RT.asA ?_ | refine RT.ldA ?_ | refine RT.faA ?_ | refine RT.bnA ?_ | (apply w_cl; (first | refine RT.callM rfl (hh) rfl rfl ?_ | refine RT.callM rfl (h1) rfl rfl ?_ | refine RT.callM rfl (h2) rfl rfl ?_ | refine RT.callM rfl (h3) rfl rfl ?_ | refine RT.callM rfl (a1) rfl rfl ?_ | refine RT.callM rfl (a2) rfl rfl ?_ | refine RT.callM rfl (b1) rfl rfl ?_ | refine RT.callM rfl (b2) rfl rfl ?_ | refine RT.callM rfl (c1) rfl rfl ?_ | refine RT.callM rfl (c2) rfl rfl ?_ | refine RT.callM rfl (e1) rfl rfl ?_ | refine RT.callM rfl (e2) rfl rfl ?_)) | refine RT.pkA ?_ | refine RT.exA ?_ | refine RT.unA ?_ | refine RT.stA ?_ | refine RT.nwA ?_ | refine RT.nwA ?_)) | (apply v_any; (first | refine VT.seq rfl ?_ | refine VT.reg rfl ?_ | refine VT.condF rfl rfl ?_ | refine VT.skip rfl ?_ | refine VT.ret rfl ?_)) | (with_reducible refine d_kEr ?_; refine kEr rfl ?_)))
        first | rfl | (refine congrArg wB ?_; simp) | trace_state
end Go.DL
