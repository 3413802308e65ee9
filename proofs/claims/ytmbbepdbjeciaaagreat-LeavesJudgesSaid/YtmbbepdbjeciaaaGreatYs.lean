/- LeavesJudges, the row. -/
import Derived.Test.YtmbbepdbjeciaaaGreatYe
import Derived.Test.YtmbbepdbjeciaaaGreatYr
set_option linter.all false
set_option maxRecDepth 100000
namespace Go.DL
open Go.Proofs Go Go.RowKit Go.ChangeShapes Go.WideShapes

theorem u5 : Tryz.prog.underlying 5 = some (.int .u8) := by kernel_rfl
theorem c25 : Tryz.prog.cellsOf 25 = 1 := by kernel_rfl
theorem c42 : Tryz.prog.cellsOf 42 = 2 := by kernel_rfl
section
variable {H : Type} {enc : TypeId × Value → H} {w : World}
theorem opens_rows : Opens enc Tryz.prog w 25 (Rsl (Rsl (Rint .i64))) := opens_slice u25 (by rw [c40]; decide) (by rw [b40]; decide) opens_ints
theorem mended_fields : OpensF enc Tryz.prog w #[⟨ "Data", 25, 0, false, "", "", 0⟩, ⟨ "Wrong", 40, 1, false, "", "", 24⟩].toList [Rsl (Rsl (Rint .i64)), Rsl (Rint .i64)] 0 (Tryz.prog.cellsOf 42) := by
  refine ⟨rfl, ?_, opens_rows, ?_, ?_, opens_ints, ?_⟩
  · show 0 + Tryz.prog.cellsOf 25 ≤ _
    rw [c25, c42]; decide
  · show 1 = 0 + Tryz.prog.cellsOf 25
    rw [c25]
  · show 0 + Tryz.prog.cellsOf 25 + Tryz.prog.cellsOf 40 ≤ _
    rw [c25, c40, c42]; decide
  · show 0 + Tryz.prog.cellsOf 25 + Tryz.prog.cellsOf 40 = _
    rw [c25, c40, c42]
end
theorem mended_of {ds : List D} (h : Rcat [Rsl (Rsl (Rint .i64)), Rsl (Rint .i64)] ds) : ∃ (d : List (List Int)) (wr : List Int), ds = [.sl (d.map eRow), .sl (wr.map eI)] ∧ d.length ≤ reachBytes ∧ (∀ x, x ∈ d → x.length ≤ 4611686018427387904) ∧ wr.length ≤ reachBytes := by
  obtain ⟨_, _, rfl, ⟨es, a1, a2, rfl⟩, _, _, rfl, ⟨fs, b1, b2, rfl⟩, rfl⟩ := h
  obtain ⟨d, hd, rfl⟩ := rows_of a2
  obtain ⟨wr, rfl⟩ := ints_of b2
  exact ⟨d, wr, rfl, by simpa using a1, hd, by simpa using b1⟩
theorem wf_u8 {n : Int} (h : (Lit.int .u8 n).wf = true) : 0 ≤ n ∧ n ≤ 255 := by
  simp only [Lit.wf, Bool.and_eq_true, decide_eq_true_eq] at h
  exact h

theorem judges_law (hh : Maps Tryz.prog 14 [] (wB true)) {H : Type} {enc : TypeId × Value → H} {W : World} {args : Array Value} {ds : List (DataW H)} {p : List MemPlace} {base : Nat}
    (hval : ∀ (j : Nat) t v, Tryz.f5.params[j]? = some t → args[j]? = some v → Value.okWide Tryz.prog W .any base t v) (hA : DataW.TrodAll enc Tryz.prog W 0 (fun _ => true) true Tryz.f5.params.toList args.toList ds p)
    (hsz : (DataW.weightsEach Tryz.prog Tryz.f5.params.toList ds).all (· ≤ reachBytes) = true) : ds.length = 6 ∧ ∃ xs, VS ⟨fun n => n < W.heap.size, W.heap.size⟩ W nowhere xs args ∧ Maps Tryz.prog 5 xs (.v (.bool true)) := by
  have hp : Tryz.f5.params = #[23, 24, 42, 5, 5, 3] := rfl
  rw [hp] at hA hval hsz
  obtain ⟨v0, vs0, d0, ds0, p0, q0, ha, rfl, _, h0, hA⟩ := trodAll_cons hA
  obtain ⟨v1, vs1, d1, ds1, p1, q1, rfl, rfl, _, h1, hA⟩ := trodAll_cons hA
  obtain ⟨v2, vs2, d2, ds2, p2, q2, rfl, rfl, _, h2, hA⟩ := trodAll_cons hA
  obtain ⟨v3, vs3, d3, ds3, p3, q3, rfl, rfl, _, h3, hA⟩ := trodAll_cons hA
  obtain ⟨v4, vs4, d4, ds4, p4, q4, rfl, rfl, _, h4, hA⟩ := trodAll_cons hA
  obtain ⟨v5, vs5, d5, ds5, p5, q5, rfl, rfl, _, h5, hA⟩ := trodAll_cons hA
  obtain ⟨rfl, rfl, _⟩ := trodAll_nil hA
  obtain rfl : args = #[v0, v1, v2, v3, v4, v5] := by cases args; simp_all
  have hwt : ∀ {j : Nat} {t : TypeId} {d : DataW H}, [23, 24, 42, 5, 5, 3][j]? = some t → [d0, d1, d2, d3, d4, d5][j]? = some d → ∀ n, n ∈ d.weights Tryz.prog t → n ≤ reachBytes := fun ht hd n hn => by
    have := List.all_eq_true.1 hsz n (DataW.weights_mem_each ht hd n hn)
    simpa using this
  obtain ⟨cs, hcs, k0⟩ := arg_struct Tryz.underlying23 shape_fields (hval 0 23 v0 rfl rfl) h0 (hwt (j := 0) rfl rfl)
  obtain ⟨es, hes, hei, k1⟩ := arg_slice u24 (by rw [c80]; decide) (by rw [b80]; decide) opens_leaf (hval 1 24 v1 rfl rfl) h1 (hwt (j := 1) rfl rfl)
  obtain ⟨ms, hms, k2⟩ := arg_struct Tryz.underlying42 mended_fields (hval 2 42 v2 rfl rfl) h2 (hwt (j := 2) rfl rfl)
  obtain ⟨a0, ha0, k3⟩ := arg_int u5 (hval 3 5 v3 rfl rfl) h3
  obtain ⟨w0, hw0, k4⟩ := arg_int u5 (hval 4 5 v4 rfl rfl) h4
  obtain ⟨n, _, k5⟩ := arg_int u3 (hval 5 3 v5 rfl rfl) h5
  obtain ⟨s, rfl⟩ := shape_of hcs
  obtain ⟨l, hlw, rfl⟩ := leaves_of hei
  obtain ⟨d, wr, rfl, m1, m2, m3⟩ := mended_of hms
  have hr := reach_short
  refine ⟨rfl, _, ⟨rfl, fun i x u e1 e2 => ?_⟩, m_LeavesJudges hh s l d wr a0 w0 n (by simp at hes; omega) hlw (by omega) m2 (by omega) (wf_u8 ha0) (wf_u8 hw0)⟩
  match i, e1, e2 with
  | 0, e1, e2 => cases e1; cases e2; exact k0 _ fun _ h => h
  | 1, e1, e2 => cases e1; cases e2; exact k1 _ fun _ h => h
  | 2, e1, e2 => cases e1; cases e2; exact k2 _ fun _ h => h
  | 3, e1, e2 => cases e1; cases e2; exact k3 _ fun _ h => h
  | 4, e1, e2 => cases e1; cases e2; exact k4 _ fun _ h => h
  | 5, e1, e2 => cases e1; cases e2; exact k5 _ fun _ h => h

theorem judges_holds (hh : Maps Tryz.prog 14 [] (wB true)) : YtmbbepdbjeciaaaGreat.Rows.LeavesJudgesSaid :=
  OpenClaim.holds_of_wide 5 Tryz.f5 rfl rfl rfl rfl rfl rfl rfl ⟨rfl, rfl, rfl, rfl, rfl⟩ rfl rfl rfl rfl rfl (by kernel_rfl) Tryz.func5 (by kernel_rfl)
    (of_decide_eq_true (by kernel_rfl)) (by unfold Func.isWrapper; rw [if_neg (of_decide_eq_false (by kernel_rfl))]; exact ⟨rfl, rfl⟩)
    (fun os started H enc _ => by
      refine returnsInHanded_of_change_sized (C := Tryz.checked) (s := YtmbbepdbjeciaaaGreat.Rows.leavesJudgesSpec) (conds := YtmbbepdbjeciaaaGreat.Rows.leavesJudgesRow.domain) (apart := false) p_own started (by kernel_rfl) Tryz.func5
        (ChangeSpec.witness6 (enc := enc) (C := Tryz.checked) false ⟨#[], #[.agg #[.int .i64 0, .int .i64 0, .int .i64 0], .slice none 0 0, .agg #[.slice none 0 0, .slice none 0 0], .int .u8 0, .int .u8 0, .int .i64 0], []⟩ 8 (by kernel_rfl) (by kernel_rfl) (by kernel_rfl) (by kernel_rfl)) ?_
      intro W base args ds gs before hval hW _ hsz _
      obtain ⟨p, q, hA, hV, _⟩ := id hW
      have hgs : gs = [] := by
        cases gs with
        | nil => rfl
        | cons => exact hV.elim
      subst hgs
      obtain ⟨hl, xs, hx, hm⟩ := judges_law hh hval hA (by rw [List.append_nil] at hsz; exact hsz)
      refine law_true (tb := 4) p_laid (fun t ht => ?_) rfl u4 rfl hW (fun gs hg => ?_) hx hm
      · have hp : Tryz.f5.params.toList = [23, 24, 42, 5, 5, 3] := rfl
        rw [hp] at ht
        simp only [List.mem_cons, List.not_mem_nil, or_false] at ht
        rcases ht with rfl | rfl | rfl | rfl | rfl | rfl <;> exact ⟨by kernel_rfl, of_decide_eq_true (by kernel_rfl)⟩
      · subst hg
        match ds, hl with
        | [d1, d2, d3, d4, d5, d6], _ => rfl)
end Go.DL
