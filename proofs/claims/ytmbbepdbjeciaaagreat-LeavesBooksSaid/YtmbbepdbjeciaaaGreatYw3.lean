/- Write of both programs. -/
import Derived.Test.YtmbbepdbjeciaaaGreatYw2
set_option maxRecDepth 100000
set_option maxHeartbeats 16000000
namespace Go.DL
open Go.Proofs Go
def WriteS (s : Shape) (l : List Line) : List (List Int) × Int :=
  if CheckS s = 0 then (if CheckLinesS l = 0 then (match writeS s l with | some r => (r, 0) | none => ([], 2)) else ([], CheckLinesS l)) else ([], 1)
theorem m_Write (s : Shape) (l : List Line) (hl : l.length ≤ 4611686018427387904) : Maps Tryz.prog 34 [dSh s, .sl (l.map eLine)] (.tup [.fl ((WriteS s l).1.map eRow), wI (WriteS s l).2]) := by
  refine Maps.vt pok Tryz.f34 (n := 29) (rs := [.tmp 4, .tmp 5]) rfl rfl rfl rfl rfl rfl fun g => ?_
  have hk := m_Check s
  have hc := m_CheckLines l hl
  unfold WriteS
  rcases CheckS_cases s with ⟨e, h⟩ | ⟨e, h⟩
  · rw [e] at hk ⊢
    rw [if_pos rfl]
    by_cases h2 : CheckLinesS l = 0
    · rw [h2] at hc ⊢
      rw [if_pos rfl]
      have hok := (checkLines_iff l).1 h2
      have hw := m_write s h l hok.1 hok.ok
      cases q : writeS s l with
      | some r =>
        rw [q] at hw
        repeat (any_goals (first | (apply w_any; (first | refine RT.nil ?_ | refine RT.mvA ?_ | refine RT.asA ?_ | refine RT.ldA ?_ | refine RT.bnA ?_ | (apply w_cl; (first | refine RT.callM rfl (hk) rfl rfl ?_ | refine RT.callM rfl (hc) rfl rfl ?_ | refine RT.callM rfl ((show Maps _ _ _ (D.tup [.fl (r.map eRow), wB true]) from hw)) rfl rfl ?_)) | refine RT.exA ?_ | refine RT.unA ?_ | refine RT.nwA ?_)) | (apply v_any; (first | refine VT.seq rfl ?_ | refine VT.reg rfl ?_ | refine VT.condF rfl rfl ?_ | refine VT.skip rfl ?_ | refine VT.ret rfl ?_)) | (with_reducible refine d_kEr ?_; refine kEr rfl ?_)))
        rfl
      | none =>
        rw [q] at hw
        repeat (any_goals (first | (apply w_any; (first | refine RT.nil ?_ | refine RT.mvA ?_ | refine RT.asA ?_ | refine RT.ldA ?_ | refine RT.bnA ?_ | (apply w_cl; (first | refine RT.callM rfl (hk) rfl rfl ?_ | refine RT.callM rfl (hc) rfl rfl ?_ | refine RT.callM rfl ((show Maps _ _ _ (D.tup [.fl [], wB false]) from hw)) rfl rfl ?_)) | refine RT.exA ?_ | refine RT.unA ?_ | refine RT.nwA ?_)) | (apply v_any; (first | refine VT.seq rfl ?_ | refine VT.reg rfl ?_ | refine VT.condT rfl rfl ?_ | refine VT.condF rfl rfl ?_ | refine VT.skip rfl ?_ | refine VT.ret rfl ?_)) | with_reducible (refine kSr ?_) | (with_reducible refine d_kEr ?_; refine kEr rfl ?_)))
        rfl
    · rw [if_neg h2]
      repeat (any_goals (first | (apply w_any; (first | refine RT.nil ?_ | refine RT.mvA ?_ | refine RT.asA ?_ | refine RT.ldA ?_ | refine RT.bnA ?_ | (apply w_cl; (first | refine RT.callM rfl (hk) rfl rfl ?_ | refine RT.callM rfl (hc) rfl rfl ?_)) | refine RT.nwA ?_)) | (apply v_any; (first | refine VT.seq rfl ?_ | refine VT.reg rfl ?_ | refine VT.condF rfl rfl ?_ | refine VT.skip rfl ?_ | refine VT.ret rfl ?_ | refine VT.condY rfl rfl (by first | assumption | omega) ?_)) | with_reducible (refine kSr ?_) | (with_reducible refine d_kEr ?_; refine kEr rfl ?_)))
      rfl
  · rw [e] at hk ⊢
    rw [if_neg (by decide)]
    repeat (any_goals (first | (apply w_any; (first | refine RT.nil ?_ | refine RT.mvA ?_ | refine RT.asA ?_ | refine RT.ldA ?_ | refine RT.bnA ?_ | refine RT.callM rfl (hk) rfl rfl ?_ | refine RT.nwA ?_)) | (apply v_any; (first | refine VT.seq rfl ?_ | refine VT.reg rfl ?_ | refine VT.condT rfl rfl ?_ | refine VT.ret rfl ?_)) | with_reducible (refine kSr ?_) | (with_reducible refine d_kEr ?_; refine kEr rfl ?_)))
    rfl
theorem RQ.other {H : List Blk} {b p : Nat} {qs : List (Nat × List Int)} (h : RQ H b qs) (hb : p ≠ b) (hp : ∀ q, q ∈ qs → p ≠ q.1) (x : Blk) : RQ (H.set p x) b qs :=
  ⟨hg_ne h.rows hb, fun q hq => ⟨hg_ne (h.row q hq).1 (hp q hq), (h.row q hq).2⟩⟩
theorem RQ.app {H : List Blk} {b : Nat} {qs : List (Nat × List Int)} (h : RQ H b qs) (T : List Blk) : RQ (H ++ T) b qs :=
  ⟨hg_app T h.rows, fun q hq => ⟨hg_app T (h.row q hq).1, (h.row q hq).2⟩⟩
end Go.DL
