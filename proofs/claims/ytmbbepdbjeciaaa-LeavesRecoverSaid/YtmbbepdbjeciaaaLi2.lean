/- LeavesRecover, the row. -/
import Derived.Test.YtmbbepdbjeciaaaRows
import Derived.Test.YtmbbepdbjeciaaaLi1
import Derived.Test.YtmbbepdbjeciaaaE13
set_option maxRecDepth 100000
namespace Go.DL.RowLeavesRecover
open Go.Proofs Go Go.RowKit Go.ChangeShapes Go.WideShapes Go.DL

theorem p_laid : laidOutB Try.prog = true := by kernel_rfl
theorem p_own : ownKnob Try.prog.godebug = none := by kernel_rfl
theorem w_u3 : Try.prog.underlying 3 = some (.int .i64) := by kernel_rfl
theorem w_u4 : Try.prog.underlying 4 = some (.bool) := by kernel_rfl
theorem w_u5 : Try.prog.underlying 5 = some (.int .u8) := by kernel_rfl
theorem w_u22 : Try.prog.underlying 22 = some (.slice 3) := by kernel_rfl
theorem w_u41 : Try.prog.underlying 41 = some (.slice 22) := by kernel_rfl
theorem w_u42 : Try.prog.underlying 42 = some (.slice 85) := by kernel_rfl
theorem w_u83 : Try.prog.underlying 83 = some (.int .u16) := by kernel_rfl
theorem w_c3 : Try.prog.cellsOf 3 = 1 := by kernel_rfl
theorem w_c4 : Try.prog.cellsOf 4 = 1 := by kernel_rfl
theorem w_c5 : Try.prog.cellsOf 5 = 1 := by kernel_rfl
theorem w_c22 : Try.prog.cellsOf 22 = 1 := by kernel_rfl
theorem w_c40 : Try.prog.cellsOf 40 = 3 := by kernel_rfl
theorem w_c83 : Try.prog.cellsOf 83 = 1 := by kernel_rfl
theorem w_c85 : Try.prog.cellsOf 85 = 4 := by kernel_rfl
theorem w_b3 : Try.prog.bytesOf 3 = 8 := by kernel_rfl
theorem w_b22 : Try.prog.bytesOf 22 = 24 := by kernel_rfl
theorem w_b85 : Try.prog.bytesOf 85 = 6 := by kernel_rfl
section
variable {H : Type} {enc : TypeId × Value → H} {w : World}
theorem w_opens22 : Opens enc Try.prog w 22 (Rsl (Rint .i64)) := opens_slice w_u22 (by rw [w_c3]; decide) (by rw [w_b3]; decide) (opens_int w_u3)
theorem w_opens85 : Opens enc Try.prog w 85 (Rcat [(Rint .u8), (Rint .u8), Rbool, (Rint .u16)]) := by
  refine opens_struct Try.underlying85 ⟨rfl, ?_, (opens_int w_u5), ?_, ?_, (opens_int w_u5), ?_, ?_, (opens_bool w_u4), ?_, ?_, (opens_int w_u83), ?_⟩
  · show 0 + Try.prog.cellsOf 5 ≤ _
    simp only [w_c4, w_c5, w_c83, w_c85]; try decide
  · show 1 = 0 + Try.prog.cellsOf 5
    simp only [w_c4, w_c5, w_c83, w_c85]; try decide
  · show 0 + Try.prog.cellsOf 5 + Try.prog.cellsOf 5 ≤ _
    simp only [w_c4, w_c5, w_c83, w_c85]; try decide
  · show 2 = 0 + Try.prog.cellsOf 5 + Try.prog.cellsOf 5
    simp only [w_c4, w_c5, w_c83, w_c85]; try decide
  · show 0 + Try.prog.cellsOf 5 + Try.prog.cellsOf 5 + Try.prog.cellsOf 4 ≤ _
    simp only [w_c4, w_c5, w_c83, w_c85]; try decide
  · show 3 = 0 + Try.prog.cellsOf 5 + Try.prog.cellsOf 5 + Try.prog.cellsOf 4
    simp only [w_c4, w_c5, w_c83, w_c85]; try decide
  · show 0 + Try.prog.cellsOf 5 + Try.prog.cellsOf 5 + Try.prog.cellsOf 4 + Try.prog.cellsOf 83 ≤ _
    simp only [w_c4, w_c5, w_c83, w_c85]; try decide
  · show 0 + Try.prog.cellsOf 5 + Try.prog.cellsOf 5 + Try.prog.cellsOf 4 + Try.prog.cellsOf 83 = _
    simp only [w_c4, w_c5, w_c83, w_c85]; try decide
end
theorem w_of3 : ∀ e, (Rint .i64) e → ∃ x : Int, (-9223372036854775808 ≤ x ∧ x ≤ 9223372036854775807) ∧ e = eI x := fun e ⟨n, h, he⟩ => ⟨n, wf_i64 h, he⟩
theorem w_of40 : ∀ e, (Rcat [(Rint .i64), (Rint .i64), (Rint .i64)]) e → ∃ x : Shape, ((-9223372036854775808 ≤ x.Data ∧ x.Data ≤ 9223372036854775807) ∧ (-9223372036854775808 ≤ x.Checks ∧ x.Checks ≤ 9223372036854775807) ∧ (-9223372036854775808 ≤ x.Width ∧ x.Width ≤ 9223372036854775807)) ∧ e = eShape x := fun e h => by
  obtain ⟨_, _, rfl, h0, _, _, rfl, h1, _, _, rfl, h2, rfl⟩ := h
  obtain ⟨a0, b0, rfl⟩ := w_of3 _ h0
  obtain ⟨a1, b1, rfl⟩ := w_of3 _ h1
  obtain ⟨a2, b2, rfl⟩ := w_of3 _ h2
  exact ⟨⟨a0, a1, a2⟩, ⟨b0, b1, b2⟩, rfl⟩
theorem w_of22 : ∀ e, (Rsl (Rint .i64)) e → ∃ x : (List Int), (x.length ≤ 4611686018427387904 ∧ ∀ y22, y22 ∈ x → (-9223372036854775808 ≤ y22 ∧ y22 ≤ 9223372036854775807)) ∧ e = eRow x := fun e ⟨es, h1, h2, he⟩ => by
  obtain ⟨l, hl, rfl⟩ := slice_of w_of3 h1 h2
  exact ⟨l, hl, he⟩
theorem w_of5 : ∀ e, (Rint .u8) e → ∃ x : Int, (0 ≤ x ∧ x ≤ 255) ∧ e = (fun n : Int => [D.v (.int .u8 n)]) x := fun e ⟨n, h, he⟩ => ⟨n, wf_u8 h, he⟩
theorem w_of4 : ∀ e, Rbool e → ∃ x : Bool, True ∧ e = (fun b : Bool => [wB b]) x := fun e ⟨b, he⟩ => ⟨b, trivial, he⟩
theorem w_of83 : ∀ e, (Rint .u16) e → ∃ x : Int, (0 ≤ x ∧ x ≤ 65535) ∧ e = (fun n : Int => [D.v (.int .u16 n)]) x := fun e ⟨n, h, he⟩ => ⟨n, wf_u16 h, he⟩
theorem w_of85 : ∀ e, (Rcat [(Rint .u8), (Rint .u8), Rbool, (Rint .u16)]) e → ∃ x : Harm, ((0 ≤ x.Leaf ∧ x.Leaf ≤ 255) ∧ (0 ≤ x.At ∧ x.At ≤ 255) ∧ True ∧ (0 ≤ x.By ∧ x.By ≤ 65535)) ∧ e = eHarm x := fun e h => by
  obtain ⟨_, _, rfl, h0, _, _, rfl, h1, _, _, rfl, h2, _, _, rfl, h3, rfl⟩ := h
  obtain ⟨a0, b0, rfl⟩ := w_of5 _ h0
  obtain ⟨a1, b1, rfl⟩ := w_of5 _ h1
  obtain ⟨a2, b2, rfl⟩ := w_of4 _ h2
  obtain ⟨a3, b3, rfl⟩ := w_of83 _ h3
  exact ⟨⟨a0, a1, a2, a3⟩, ⟨b0, b1, b2, b3⟩, rfl⟩
theorem law (hh : Maps Try.prog 7 [] (wB true)) {H : Type} {enc : TypeId × Value → H} {W : World} {args : Array Value} {ds : List (DataW H)} {p : List MemPlace} {base : Nat}
    (hval : ∀ (j : Nat) t v, Try.f5.params[j]? = some t → args[j]? = some v → Value.okWide Try.prog W .any base t v) (hA : DataW.TrodAll enc Try.prog W 0 (fun _ => true) true Try.f5.params.toList args.toList ds p)
    (hsz : (DataW.weightsEach Try.prog Try.f5.params.toList ds).all (· ≤ reachBytes) = true) : ds.length = 3 ∧ ∃ xs, VS ⟨fun n => n < W.heap.size, W.heap.size⟩ W nowhere xs args ∧ Maps Try.prog 5 xs (.v (.bool true)) := by
  have hp : Try.f5.params = #[40, 41, 42] := rfl
  rw [hp] at hA hval hsz
  obtain ⟨v0, vs0, d0, ds0, p0, q0, ha, rfl, _, h0, hA⟩ := trodAll_cons hA
  obtain ⟨v1, vs1, d1, ds1, p1, q1, rfl, rfl, _, h1, hA⟩ := trodAll_cons hA
  obtain ⟨v2, vs2, d2, ds2, p2, q2, rfl, rfl, _, h2, hA⟩ := trodAll_cons hA
  obtain ⟨rfl, rfl, _⟩ := trodAll_nil hA
  obtain rfl : args = #[v0, v1, v2] := by cases args; simp_all
  have hwt : ∀ {j : Nat} {t : TypeId} {d : DataW H}, [40, 41, 42][j]? = some t → [d0, d1, d2][j]? = some d → ∀ n, n ∈ d.weights Try.prog t → n ≤ reachBytes := fun ht hd n hn => by
    have := List.all_eq_true.1 hsz n (DataW.weights_mem_each ht hd n hn)
    simpa using this
  obtain ⟨es0, he0, k0⟩ := arg_struct (Rs := [(Rint .i64), (Rint .i64), (Rint .i64)]) Try.underlying40 (by
    refine ⟨rfl, ?_, (opens_int w_u3), ?_, ?_, (opens_int w_u3), ?_, ?_, (opens_int w_u3), ?_⟩
    · show 0 + Try.prog.cellsOf 3 ≤ _
      simp only [w_c3, w_c40]; try decide
    · show 1 = 0 + Try.prog.cellsOf 3
      simp only [w_c3, w_c40]; try decide
    · show 0 + Try.prog.cellsOf 3 + Try.prog.cellsOf 3 ≤ _
      simp only [w_c3, w_c40]; try decide
    · show 2 = 0 + Try.prog.cellsOf 3 + Try.prog.cellsOf 3
      simp only [w_c3, w_c40]; try decide
    · show 0 + Try.prog.cellsOf 3 + Try.prog.cellsOf 3 + Try.prog.cellsOf 3 ≤ _
      simp only [w_c3, w_c40]; try decide
    · show 0 + Try.prog.cellsOf 3 + Try.prog.cellsOf 3 + Try.prog.cellsOf 3 = _
      simp only [w_c3, w_c40]; try decide) (hval 0 40 v0 rfl rfl) h0 (hwt (j := 0) rfl rfl)
  obtain ⟨x0, q0, rfl⟩ := w_of40 _ he0
  obtain ⟨es1, hl1, he1, k1⟩ := arg_slice w_u41 (by rw [w_c22]; decide) (by rw [w_b22]; decide) w_opens22 (hval 1 41 v1 rfl rfl) h1 (hwt (j := 1) rfl rfl)
  obtain ⟨x1, q1, rfl⟩ := slice_of w_of22 hl1 he1
  obtain ⟨es2, hl2, he2, k2⟩ := arg_slice w_u42 (by rw [w_c85]; decide) (by rw [w_b85]; decide) w_opens85 (hval 2 42 v2 rfl rfl) h2 (hwt (j := 2) rfl rfl)
  obtain ⟨x2, q2, rfl⟩ := slice_of w_of85 hl2 he2
  refine ⟨rfl, _, ⟨rfl, fun i d u e1 e2 => ?_⟩, m_LeavesRecover hh x0 x1 x2 q1.1 (fun x h => (q1.2 x h).1) q2.1 (fun x h => ⟨(q2.2 x h).1, (q2.2 x h).2.1, (q2.2 x h).2.2.2⟩)⟩
  match i, e1, e2 with
  | 0, e1, e2 => cases e1; cases e2; exact k0 _ fun _ h => h
  | 1, e1, e2 => cases e1; cases e2; exact k1 _ fun _ h => h
  | 2, e1, e2 => cases e1; cases e2; exact k2 _ fun _ h => h

theorem holds (hh : Maps Try.prog 7 [] (wB true)) : Ytmbbepdbjeciaaa.Rows.LeavesRecoverSaid :=
  OpenClaim.holds_of_wide 5 Try.f5 rfl rfl rfl rfl rfl rfl rfl ⟨rfl, rfl, rfl, rfl, rfl⟩ rfl rfl rfl rfl rfl (by kernel_rfl) Try.func5 (by kernel_rfl)
    (of_decide_eq_true (by kernel_rfl)) (by unfold Func.isWrapper; rw [if_neg (of_decide_eq_false (by kernel_rfl))]; exact ⟨rfl, rfl⟩)
    (fun os started H enc _ => by
      refine returnsInHanded_of_change_sized (C := Try.checked) (s := Ytmbbepdbjeciaaa.Rows.leavesRecoverSpec) (conds := Ytmbbepdbjeciaaa.Rows.leavesRecoverRow.domain) (apart := false) p_own started (by kernel_rfl) Try.func5
        (ChangeSpec.witness6 (enc := enc) (C := Try.checked) false ⟨#[], #[.agg #[.int .i64 0, .int .i64 0, .int .i64 0], .slice none 0 0, .slice none 0 0], []⟩ 8 (by kernel_rfl) (by kernel_rfl) (by kernel_rfl) (by kernel_rfl)) ?_
      intro W base args ds gs before hval hW _ hsz _
      obtain ⟨p, q, hA, hV, _⟩ := id hW
      have hgs : gs = [] := by
        cases gs with
        | nil => rfl
        | cons => exact hV.elim
      subst hgs
      obtain ⟨hl, xs, hx, hm⟩ := law hh hval hA (by rw [List.append_nil] at hsz; exact hsz)
      refine law_true (tb := 4) p_laid (fun t ht => ?_) rfl w_u4 rfl hW (fun gs hg => ?_) hx hm
      · have hp : Try.f5.params.toList = [40, 41, 42] := rfl
        rw [hp] at ht
        simp only [List.mem_cons, List.not_mem_nil, or_false] at ht
        rcases ht with rfl | rfl | rfl <;> exact ⟨by kernel_rfl, of_decide_eq_true (by kernel_rfl)⟩
      · subst hg
        match ds, hl with
        | [d1, d2, d3], _ => rfl)
end Go.DL.RowLeavesRecover
