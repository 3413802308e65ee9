/- LeavesOne, the row. -/
import Derived.Test.YtmbbepdbjeciaaaRows
import Derived.Test.YtmbbepdbjeciaaaLi4
import Derived.Test.YtmbbepdbjeciaaaE12
set_option maxRecDepth 100000
namespace Go.DL.RowLeavesOne
open Go.Proofs Go Go.RowKit Go.ChangeShapes Go.WideShapes Go.DL

theorem p_laid : laidOutB Try.prog = true := by kernel_rfl
theorem p_own : ownKnob Try.prog.godebug = none := by kernel_rfl
theorem w_u3 : Try.prog.underlying 3 = some (.int .i64) := by kernel_rfl
theorem w_u4 : Try.prog.underlying 4 = some (.bool) := by kernel_rfl
theorem w_u5 : Try.prog.underlying 5 = some (.int .u8) := by kernel_rfl
theorem w_u22 : Try.prog.underlying 22 = some (.slice 3) := by kernel_rfl
theorem w_u41 : Try.prog.underlying 41 = some (.slice 22) := by kernel_rfl
theorem w_u45 : Try.prog.underlying 45 = some (.slice 49) := by kernel_rfl
theorem w_u60 : Try.prog.underlying 60 = some (.slice 5) := by kernel_rfl
theorem w_c3 : Try.prog.cellsOf 3 = 1 := by kernel_rfl
theorem w_c5 : Try.prog.cellsOf 5 = 1 := by kernel_rfl
theorem w_c22 : Try.prog.cellsOf 22 = 1 := by kernel_rfl
theorem w_c40 : Try.prog.cellsOf 40 = 3 := by kernel_rfl
theorem w_c41 : Try.prog.cellsOf 41 = 1 := by kernel_rfl
theorem w_c49 : Try.prog.cellsOf 49 = 2 := by kernel_rfl
theorem w_c53 : Try.prog.cellsOf 53 = 2 := by kernel_rfl
theorem w_b3 : Try.prog.bytesOf 3 = 8 := by kernel_rfl
theorem w_b5 : Try.prog.bytesOf 5 = 1 := by kernel_rfl
theorem w_b22 : Try.prog.bytesOf 22 = 24 := by kernel_rfl
theorem w_b49 : Try.prog.bytesOf 49 = 32 := by kernel_rfl
section
variable {H : Type} {enc : TypeId × Value → H} {w : World}
theorem w_opens22 : Opens enc Try.prog w 22 (Rsl (Rint .i64)) := opens_slice w_u22 (by rw [w_c3]; decide) (by rw [w_b3]; decide) (opens_int w_u3)
theorem w_opens49 : Opens enc Try.prog w 49 (Rcat [(Rint .i64), (Rsl (Rint .i64))]) := by
  refine opens_struct Try.underlying49 ⟨rfl, ?_, (opens_int w_u3), ?_, ?_, w_opens22, ?_⟩
  · show 0 + Try.prog.cellsOf 3 ≤ _
    simp only [w_c3, w_c22, w_c49]; try decide
  · show 1 = 0 + Try.prog.cellsOf 3
    simp only [w_c3, w_c22, w_c49]; try decide
  · show 0 + Try.prog.cellsOf 3 + Try.prog.cellsOf 22 ≤ _
    simp only [w_c3, w_c22, w_c49]; try decide
  · show 0 + Try.prog.cellsOf 3 + Try.prog.cellsOf 22 = _
    simp only [w_c3, w_c22, w_c49]; try decide
theorem w_opens41 : Opens enc Try.prog w 41 (Rsl (Rsl (Rint .i64))) := opens_slice w_u41 (by rw [w_c22]; decide) (by rw [w_b22]; decide) w_opens22
end
theorem w_of3 : ∀ e, (Rint .i64) e → ∃ x : Int, (-9223372036854775808 ≤ x ∧ x ≤ 9223372036854775807) ∧ e = eI x := fun e ⟨n, h, he⟩ => ⟨n, wf_i64 h, he⟩
theorem w_of40 : ∀ e, (Rcat [(Rint .i64), (Rint .i64), (Rint .i64)]) e → ∃ x : Shape, ((-9223372036854775808 ≤ x.Data ∧ x.Data ≤ 9223372036854775807) ∧ (-9223372036854775808 ≤ x.Checks ∧ x.Checks ≤ 9223372036854775807) ∧ (-9223372036854775808 ≤ x.Width ∧ x.Width ≤ 9223372036854775807)) ∧ e = eShape x := fun e h => by
  obtain ⟨_, _, rfl, h0, _, _, rfl, h1, _, _, rfl, h2, rfl⟩ := h
  obtain ⟨a0, b0, rfl⟩ := w_of3 _ h0
  obtain ⟨a1, b1, rfl⟩ := w_of3 _ h1
  obtain ⟨a2, b2, rfl⟩ := w_of3 _ h2
  exact ⟨⟨a0, a1, a2⟩, ⟨b0, b1, b2⟩, rfl⟩
theorem w_of22 : ∀ e, (Rsl (Rint .i64)) e → ∃ x : (List Int), (x.length ≤ 4611686018427387904 ∧ ∀ y22, y22 ∈ x → (-9223372036854775808 ≤ y22 ∧ y22 ≤ 9223372036854775807)) ∧ e = eRow x := fun e ⟨es, h1, h2, he⟩ => by
  obtain ⟨l, hl, rfl⟩ := slice_of w_of3 h1 h2
  exact ⟨l, hl, he⟩
theorem w_of49 : ∀ e, (Rcat [(Rint .i64), (Rsl (Rint .i64))]) e → ∃ x : Leaf, ((-9223372036854775808 ≤ x.Number ∧ x.Number ≤ 9223372036854775807) ∧ (x.Words.length ≤ 4611686018427387904 ∧ ∀ y22, y22 ∈ x.Words → (-9223372036854775808 ≤ y22 ∧ y22 ≤ 9223372036854775807))) ∧ e = eLeaf x := fun e h => by
  obtain ⟨_, _, rfl, h0, _, _, rfl, h1, rfl⟩ := h
  obtain ⟨a0, b0, rfl⟩ := w_of3 _ h0
  obtain ⟨a1, b1, rfl⟩ := w_of22 _ h1
  exact ⟨⟨a0, a1⟩, ⟨b0, b1⟩, rfl⟩
theorem w_of41 : ∀ e, (Rsl (Rsl (Rint .i64))) e → ∃ x : (List (List Int)), (x.length ≤ 4611686018427387904 ∧ ∀ y41, y41 ∈ x → (y41.length ≤ 4611686018427387904 ∧ ∀ y22, y22 ∈ y41 → (-9223372036854775808 ≤ y22 ∧ y22 ≤ 9223372036854775807))) ∧ e = (fun l : (List (List Int)) => [D.sl (l.map eRow)]) x := fun e ⟨es, h1, h2, he⟩ => by
  obtain ⟨l, hl, rfl⟩ := slice_of w_of22 h1 h2
  exact ⟨l, hl, he⟩
theorem w_of53 : ∀ e, (Rcat [(Rsl (Rsl (Rint .i64))), (Rsl (Rint .i64))]) e → ∃ x : (List (List Int) × List Int), ((x.1.length ≤ 4611686018427387904 ∧ ∀ y41, y41 ∈ x.1 → (y41.length ≤ 4611686018427387904 ∧ ∀ y22, y22 ∈ y41 → (-9223372036854775808 ≤ y22 ∧ y22 ≤ 9223372036854775807))) ∧ (x.2.length ≤ 4611686018427387904 ∧ ∀ y22, y22 ∈ x.2 → (-9223372036854775808 ≤ y22 ∧ y22 ≤ 9223372036854775807))) ∧ e = (fun m : List (List Int) × List Int => [D.sl (m.1.map eRow), D.sl (m.2.map eI)]) x := fun e h => by
  obtain ⟨_, _, rfl, h0, _, _, rfl, h1, rfl⟩ := h
  obtain ⟨a0, b0, rfl⟩ := w_of41 _ h0
  obtain ⟨a1, b1, rfl⟩ := w_of22 _ h1
  exact ⟨⟨a0, a1⟩, ⟨b0, b1⟩, rfl⟩
theorem w_of5 : ∀ e, (Rint .u8) e → ∃ x : Int, (0 ≤ x ∧ x ≤ 255) ∧ e = (fun n : Int => [D.v (.int .u8 n)]) x := fun e ⟨n, h, he⟩ => ⟨n, wf_u8 h, he⟩
theorem law (hh : Maps Try.prog 7 [] (wB true)) {H : Type} {enc : TypeId × Value → H} {W : World} {args : Array Value} {ds : List (DataW H)} {p : List MemPlace} {base : Nat}
    (hval : ∀ (j : Nat) t v, Try.f6.params[j]? = some t → args[j]? = some v → Value.okWide Try.prog W .any base t v) (hA : DataW.TrodAll enc Try.prog W 0 (fun _ => true) true Try.f6.params.toList args.toList ds p)
    (hsz : (DataW.weightsEach Try.prog Try.f6.params.toList ds).all (· ≤ reachBytes) = true) : ds.length = 4 ∧ ∃ xs, VS ⟨fun n => n < W.heap.size, W.heap.size⟩ W nowhere xs args ∧ Maps Try.prog 6 xs (.v (.bool true)) := by
  have hp : Try.f6.params = #[40, 45, 53, 60] := rfl
  rw [hp] at hA hval hsz
  obtain ⟨v0, vs0, d0, ds0, p0, q0, ha, rfl, _, h0, hA⟩ := trodAll_cons hA
  obtain ⟨v1, vs1, d1, ds1, p1, q1, rfl, rfl, _, h1, hA⟩ := trodAll_cons hA
  obtain ⟨v2, vs2, d2, ds2, p2, q2, rfl, rfl, _, h2, hA⟩ := trodAll_cons hA
  obtain ⟨v3, vs3, d3, ds3, p3, q3, rfl, rfl, _, h3, hA⟩ := trodAll_cons hA
  obtain ⟨rfl, rfl, _⟩ := trodAll_nil hA
  obtain rfl : args = #[v0, v1, v2, v3] := by cases args; simp_all
  have hwt : ∀ {j : Nat} {t : TypeId} {d : DataW H}, [40, 45, 53, 60][j]? = some t → [d0, d1, d2, d3][j]? = some d → ∀ n, n ∈ d.weights Try.prog t → n ≤ reachBytes := fun ht hd n hn => by
    have := List.all_eq_true.1 hsz n (DataW.weights_mem_each ht hd n hn)
    simpa using this
  obtain ⟨es0, he0, k0⟩ := arg_struct (Rs := [(Rint .i64), (Rint .i64), (Rint .i64)]) Try.underlying40 (by
    refine ⟨rfl, ?_, (opens_int w_u3), ?_, ?_, (opens_int w_u3), ?_, ?_, (opens_int w_u3), ?_⟩
    · show 0 + Try.prog.cellsOf 3 ≤ _
      simp only [w_c3, w_c40]; try decide
    · show 1 = 0 + Try.prog.cellsOf 3
      simp only [w_c3, w_c40]; try decide
    · show 0 + Try.prog.cellsOf 3 + Try.prog.cellsOf 3 ≤ _
      simp only [w_c3, w_c40]; try decide
    · show 2 = 0 + Try.prog.cellsOf 3 + Try.prog.cellsOf 3
      simp only [w_c3, w_c40]; try decide
    · show 0 + Try.prog.cellsOf 3 + Try.prog.cellsOf 3 + Try.prog.cellsOf 3 ≤ _
      simp only [w_c3, w_c40]; try decide
    · show 0 + Try.prog.cellsOf 3 + Try.prog.cellsOf 3 + Try.prog.cellsOf 3 = _
      simp only [w_c3, w_c40]; try decide) (hval 0 40 v0 rfl rfl) h0 (hwt (j := 0) rfl rfl)
  obtain ⟨x0, q0, rfl⟩ := w_of40 _ he0
  obtain ⟨es1, hl1, he1, k1⟩ := arg_slice w_u45 (by rw [w_c49]; decide) (by rw [w_b49]; decide) w_opens49 (hval 1 45 v1 rfl rfl) h1 (hwt (j := 1) rfl rfl)
  obtain ⟨x1, q1, rfl⟩ := slice_of w_of49 hl1 he1
  obtain ⟨es2, he2, k2⟩ := arg_struct (Rs := [(Rsl (Rsl (Rint .i64))), (Rsl (Rint .i64))]) Try.underlying53 (by
    refine ⟨rfl, ?_, w_opens41, ?_, ?_, w_opens22, ?_⟩
    · show 0 + Try.prog.cellsOf 41 ≤ _
      simp only [w_c22, w_c41, w_c53]; try decide
    · show 1 = 0 + Try.prog.cellsOf 41
      simp only [w_c22, w_c41, w_c53]; try decide
    · show 0 + Try.prog.cellsOf 41 + Try.prog.cellsOf 22 ≤ _
      simp only [w_c22, w_c41, w_c53]; try decide
    · show 0 + Try.prog.cellsOf 41 + Try.prog.cellsOf 22 = _
      simp only [w_c22, w_c41, w_c53]; try decide) (hval 2 53 v2 rfl rfl) h2 (hwt (j := 2) rfl rfl)
  obtain ⟨x2, q2, rfl⟩ := w_of53 _ he2
  obtain ⟨es3, hl3, he3, k3⟩ := arg_slice w_u60 (by rw [w_c5]; decide) (by rw [w_b5]; decide) (opens_int w_u5) (hval 3 60 v3 rfl rfl) h3 (hwt (j := 3) rfl rfl)
  obtain ⟨x3, q3, rfl⟩ := slice_of w_of5 hl3 he3
  refine ⟨rfl, _, ⟨rfl, fun i d u e1 e2 => ?_⟩, m_LeavesOne hh x0 x1 x2.1 x2.2 x3 q1.1 (fun x h => (q1.2 x h).2.1) q2.1.1 (fun x h => (q2.1.2 x h).1) q2.2.1 q3.1 q3.2⟩
  match i, e1, e2 with
  | 0, e1, e2 => cases e1; cases e2; exact k0 _ fun _ h => h
  | 1, e1, e2 => cases e1; cases e2; exact k1 _ fun _ h => h
  | 2, e1, e2 => cases e1; cases e2; exact k2 _ fun _ h => h
  | 3, e1, e2 => cases e1; cases e2; exact k3 _ fun _ h => h

theorem holds (hh : Maps Try.prog 7 [] (wB true)) : Ytmbbepdbjeciaaa.Rows.LeavesOneSaid :=
  OpenClaim.holds_of_wide 6 Try.f6 rfl rfl rfl rfl rfl rfl rfl ⟨rfl, rfl, rfl, rfl, rfl⟩ rfl rfl rfl rfl rfl (by kernel_rfl) Try.func6 (by kernel_rfl)
    (of_decide_eq_true (by kernel_rfl)) (by unfold Func.isWrapper; rw [if_neg (of_decide_eq_false (by kernel_rfl))]; exact ⟨rfl, rfl⟩)
    (fun os started H enc _ => by
      refine returnsInHanded_of_change_sized (C := Try.checked) (s := Ytmbbepdbjeciaaa.Rows.leavesOneSpec) (conds := Ytmbbepdbjeciaaa.Rows.leavesOneRow.domain) (apart := false) p_own started (by kernel_rfl) Try.func6
        (ChangeSpec.witness6 (enc := enc) (C := Try.checked) false ⟨#[], #[.agg #[.int .i64 0, .int .i64 0, .int .i64 0], .slice none 0 0, .agg #[.slice none 0 0, .slice none 0 0], .slice none 0 0], []⟩ 8 (by kernel_rfl) (by kernel_rfl) (by kernel_rfl) (by kernel_rfl)) ?_
      intro W base args ds gs before hval hW _ hsz _
      obtain ⟨p, q, hA, hV, _⟩ := id hW
      have hgs : gs = [] := by
        cases gs with
        | nil => rfl
        | cons => exact hV.elim
      subst hgs
      obtain ⟨hl, xs, hx, hm⟩ := law hh hval hA (by rw [List.append_nil] at hsz; exact hsz)
      refine law_true (tb := 4) p_laid (fun t ht => ?_) rfl w_u4 rfl hW (fun gs hg => ?_) hx hm
      · have hp : Try.f6.params.toList = [40, 45, 53, 60] := rfl
        rw [hp] at ht
        simp only [List.mem_cons, List.not_mem_nil, or_false] at ht
        rcases ht with rfl | rfl | rfl | rfl <;> exact ⟨by kernel_rfl, of_decide_eq_true (by kernel_rfl)⟩
      · subst hg
        match ds, hl with
        | [d1, d2, d3, d4], _ => rfl)
end Go.DL.RowLeavesOne
