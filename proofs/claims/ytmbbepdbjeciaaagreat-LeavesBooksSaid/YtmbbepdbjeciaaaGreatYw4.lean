/- Lines compared; a line of words; slices put together. -/
import Derived.Test.YtmbbepdbjeciaaaGreatYw3
set_option maxRecDepth 100000
set_option maxHeartbeats 16000000
namespace Go.DL
open Go.Proofs Go
deriving instance DecidableEq for Line
section
variable {P : Program} {H : List Blk} {s n : Nat} {al : AL} {tx : TypeId} {x y : Operand} {a : Int}
/-- A cell of an own array. -/
theorem f_ixArr {bk j len k : Nat} {e : TypeId} (hx : evA n al x = .mp bk j 0) (hy : evA n al y = wI a) (hn : a = k) (hu : P.underlying tx = some (.array len e)) (hs : tsz P e = some 1) (hk : k < len) : Val P H s n al (.indexAddr tx x y) (.mp bk j k) := by
  subst hn
  refine ⟨?_⟩
  simp only [stepD, ev_T, hx, hy, indexAddrD, unfl, intD, hu, hs]
  rw [if_pos (by omega)]
  simp [keepD]
end
theorem st72 : Tryz.prog.stoodInHeld 72 = false := by kernel_rfl
theorem gt72 : Tryz.prog.eqGuardType Tryz.prog.depth 72 = false := by kernel_rfl
theorem agg_line (x y : Line) : aggEqD Tryz.prog 72 (eLine x) (eLine y) = some (decide (x = y)) := by
  have e : aggEqD Tryz.prog 72 (eLine x) (eLine y) = if Tryz.prog.stoodInHeld 72 = false ∧ Tryz.prog.eqGuardType Tryz.prog.depth 72 = false then some (x.ID == y.ID && (x.Day == y.Day && (x.What == y.What && (x.Worth == y.Worth && true)))) else none := rfl
  rw [e, if_pos ⟨st72, gt72⟩]
  refine congrArg some ?_
  rw [Bool.eq_iff_iff]
  obtain ⟨a, b, c, d⟩ := x
  obtain ⟨a', b', c', d'⟩ := y
  simp
theorem m_SameLines (a b : List Line) (hl : a.length ≤ 4611686018427387904) (hl' : b.length ≤ 4611686018427387904) : Maps Tryz.prog 38 [.sl (a.map eLine), .sl (b.map eLine)] (wB (decide (a = b))) := by
  refine Maps.vt pok Tryz.f38 (n := 26) (rs := [.tmp 4]) rfl rfl rfl rfl rfl rfl fun g => ?_
  by_cases he : a.length = b.length
  · repeat (any_goals (first | (apply w_any; (first | refine RT.nil ?_ | refine RT.mvA ?_ | refine RT.asA ?_ | refine RT.bnA ?_ | refine RT.clA ?_)) | (apply v_any; (first | refine VT.seq rfl ?_ | refine VT.reg rfl ?_ | refine VT.block rfl ?_ | refine VT.skip rfl ?_ | refine VT.condN rfl rfl (by first | assumption | omega) ?_))))
    refine VT.loop (fun j al H g' => ∃ k : Nat, j = a.length - k ∧ k ≤ a.length ∧ a.take k = b.take k ∧ al = [(0, .sl (a.map eLine)), (1, .sl (b.map eLine)), (5, wI k)] ∧ H = [] ∧ g' = g) rfl
      ⟨_, _, _, ⟨0, rfl, Nat.zero_le _, rfl, rfl, rfl, rfl⟩, fgA⟩ ?_
    rintro j al H g' ⟨k, rfl, hk, hn, rfl, rfl, rfl⟩
    by_cases hlt : k < a.length
    · by_cases hab : a[k] = b[k]'(by omega)
      · have hag := agg_line a[k] (b[k]'(by omega))
        rw [decide_eq_true hab] at hag
        repeat (any_goals (first | (apply w_any; (first | refine RT.nil ?_ | refine RT.mvA ?_ | refine RT.asA ?_ | refine RT.bnA ?_ | refine RT.clA ?_)) | (apply v_any; (first | refine VT.seq rfl ?_ | refine VT.reg rfl ?_ | refine VT.condF rfl rfl ?_ | refine VT.block rfl ?_ | refine VT.skip rfl ?_ | refine VT.draw [(0, []), (0, []), (0, []), (0, []), (0, []), (0, []), (0, []), (0, []), (0, [])] 1 mixedOk rfl (by decide +kernel) (by decide +kernel) (by decide +kernel) (by first | (simp only [nrm]; rfl) | (simp only [nrm, Nat.reduceAdd, Nat.zero_add]; rfl) | rfl) (by first | (simp only [nrm]; rfl) | (simp only [nrm, Nat.reduceAdd, Nat.zero_add]; rfl) | rfl) ?_ | refine VT.condY rfl rfl (by first | assumption | omega) ?_)) | (apply q_any; (first | refine PT.done (by first | (simp only [nrm]; rfl) | (simp only [nrm, Nat.reduceAdd, Nat.zero_add]; rfl) | rfl) ?_ | refine PT.mvA ?_ | refine PT.ldA ?_ | (apply q_ix; (first | refine PT.v (f_ixL (l := a) (f := eLine) (k := k) rfl rfl rfl hlt rfl rfl) ?_ | refine PT.v (f_ixL (l := b) (f := eLine) (k := k) rfl rfl rfl (by omega) rfl rfl) ?_)) | refine PT.v (f_neqAgg rfl rfl hag) ?_)) | with_reducible (refine kLn ?_)))
        exact ⟨a.length - (k + 1), by omega, _, _, ⟨k + 1, rfl, hlt, by rw [List.take_succ_eq_append_getElem hlt, List.take_succ_eq_append_getElem (show k < b.length by omega), hn, hab], rfl, rfl, rfl⟩, fgA⟩
      · have hag := agg_line a[k] (b[k]'(by omega))
        rw [decide_eq_false hab] at hag
        have hne : a ≠ b := fun h => hab (by subst h; rfl)
        rw [decide_eq_false hne]
        repeat (any_goals (first | (apply w_any; (first | refine RT.nil ?_ | refine RT.mvA ?_ | refine RT.asA ?_ | refine RT.bnA ?_ | refine RT.clA ?_)) | (apply v_any; (first | refine VT.seq rfl ?_ | refine VT.reg rfl ?_ | refine VT.condT rfl rfl ?_ | refine VT.block rfl ?_ | refine VT.skip rfl ?_ | refine VT.ret rfl ?_ | refine VT.draw [(0, []), (0, []), (0, []), (0, []), (0, []), (0, []), (0, []), (0, []), (0, [])] 1 mixedOk rfl (by decide +kernel) (by decide +kernel) (by decide +kernel) (by first | (simp only [nrm]; rfl) | (simp only [nrm, Nat.reduceAdd, Nat.zero_add]; rfl) | rfl) (by first | (simp only [nrm]; rfl) | (simp only [nrm, Nat.reduceAdd, Nat.zero_add]; rfl) | rfl) ?_ | refine VT.condY rfl rfl (by first | assumption | omega) ?_)) | (apply q_any; (first | refine PT.done (by first | (simp only [nrm]; rfl) | (simp only [nrm, Nat.reduceAdd, Nat.zero_add]; rfl) | rfl) ?_ | refine PT.mvA ?_ | refine PT.ldA ?_ | (apply q_ix; (first | refine PT.v (f_ixL (l := a) (f := eLine) (k := k) rfl rfl rfl hlt rfl rfl) ?_ | refine PT.v (f_ixL (l := b) (f := eLine) (k := k) rfl rfl rfl (by omega) rfl rfl) ?_)) | refine PT.v (f_neqAgg rfl rfl hag) ?_)) | (with_reducible first | refine kSr ?_ | refine kBr ?_ | refine kLr ?_) | (with_reducible refine d_kEr ?_; refine kEr rfl ?_)))
        rfl
    · repeat (any_goals (first | (apply w_any; (first | refine RT.nil ?_ | refine RT.mvA ?_ | refine RT.asA ?_ | refine RT.bnA ?_ | refine RT.clA ?_)) | (apply v_any; (first | refine VT.seq rfl ?_ | refine VT.reg rfl ?_ | refine VT.exit rfl ?_ | refine VT.ret rfl ?_ | refine VT.condN rfl rfl (by first | assumption | omega) ?_)) | (with_reducible refine d_kEr ?_; refine kEr rfl ?_)))
      rw [List.take_of_length_le (by omega), List.take_of_length_le (by omega)] at hn
      rw [decide_eq_true hn]; rfl
  · repeat (any_goals (first | (apply w_any; (first | refine RT.nil ?_ | refine RT.mvA ?_ | refine RT.asA ?_ | refine RT.bnA ?_ | refine RT.clA ?_)) | (apply v_any; (first | refine VT.seq rfl ?_ | refine VT.reg rfl ?_ | refine VT.ret rfl ?_ | refine VT.condY rfl rfl (by first | assumption | omega) ?_)) | with_reducible (refine kSr ?_) | (with_reducible refine d_kEr ?_; refine kEr rfl ?_)))
    have : a ≠ b := fun h => he (by rw [h])
    rw [decide_eq_false this]; rfl
def lineOfS (w : List Int) : Line := ⟨(w.getD 0 0 * 65521 + w.getD 1 0) * 65521 + w.getD 2 0, w.getD 3 0, w.getD 4 0, w.getD 5 0 * 65521 + w.getD 6 0⟩
theorem m_lineOf (a0 a1 a2 a3 a4 a5 a6 : Int) (h0 : W a0) (h1 : W a1) (h2 : W a2) (h5 : W a5) (h6 : W a6) : Maps Tryz.prog 91 [.agg [wI a0, wI a1, wI a2, wI a3, wI a4, wI a5, wI a6]] (.agg (eLine (lineOfS [a0, a1, a2, a3, a4, a5, a6]))) := by
  refine Maps.vt pok Tryz.f91 (n := 24) (rs := [.cell 2 72]) rfl rfl rfl rfl rfl rfl fun g => ?_
  obtain ⟨h01, h02⟩ := h0
  obtain ⟨h11, h12⟩ := h1
  obtain ⟨h21, h22⟩ := h2
  obtain ⟨h51, h52⟩ := h5
  obtain ⟨h61, h62⟩ := h6
  repeat (any_goals (first | (apply w_any; (first | refine RT.nil ?_ | refine RT.ldA ?_ | refine RT.bnA ?_ | (apply w_ix; (first | refine RT.v (f_ixArr (k := 0) rfl rfl rfl rfl rfl (by decide)) ?_ | refine RT.v (f_ixArr (k := 1) rfl rfl rfl rfl rfl (by decide)) ?_ | refine RT.v (f_ixArr (k := 2) rfl rfl rfl rfl rfl (by decide)) ?_ | refine RT.v (f_ixArr (k := 3) rfl rfl rfl rfl rfl (by decide)) ?_ | refine RT.v (f_ixArr (k := 4) rfl rfl rfl rfl rfl (by decide)) ?_ | refine RT.v (f_ixArr (k := 5) rfl rfl rfl rfl rfl (by decide)) ?_ | refine RT.v (f_ixArr (k := 6) rfl rfl rfl rfl rfl (by decide)) ?_)) | refine RT.stA ?_ | refine RT.nwA ?_ | refine RT.nwA ?_ | refine RT.v (f_build (d := .agg (eLine (lineOfS [a0, a1, a2, a3, a4, a5, a6]))) rfl) ?_)) | (apply v_any; (first | refine VT.seq rfl ?_ | refine VT.reg rfl ?_ | refine VT.ret rfl ?_)) | (with_reducible refine d_kEr ?_; refine kEr rfl ?_)))
  rfl
end Go.DL
