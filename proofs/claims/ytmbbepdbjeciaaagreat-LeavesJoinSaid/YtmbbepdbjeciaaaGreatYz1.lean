/- LeavesJoin, the row. -/
import Derived.Test.YtmbbepdbjeciaaaGreatRows
import Derived.Test.YtmbbepdbjeciaaaGreatYv8
import Derived.Test.YtmbbepdbjeciaaaGreatE13
set_option maxRecDepth 100000
namespace Go.DL.RowLeavesJoin
open Go.Proofs Go Go.RowKit Go.ChangeShapes Go.WideShapes Go.DL

theorem p_laid : laidOutB Tryz.prog = true := by kernel_rfl
theorem p_own : ownKnob Tryz.prog.godebug = none := by kernel_rfl
theorem w_u3 : Tryz.prog.underlying 3 = some (.int .i64) := by kernel_rfl
theorem w_u4 : Tryz.prog.underlying 4 = some (.bool) := by kernel_rfl
theorem w_u24 : Tryz.prog.underlying 24 = some (.slice 80) := by kernel_rfl
theorem w_u40 : Tryz.prog.underlying 40 = some (.slice 3) := by kernel_rfl
theorem w_u74 : Tryz.prog.underlying 74 = some (.slice 24) := by kernel_rfl
theorem w_c3 : Tryz.prog.cellsOf 3 = 1 := by kernel_rfl
theorem w_c23 : Tryz.prog.cellsOf 23 = 3 := by kernel_rfl
theorem w_c24 : Tryz.prog.cellsOf 24 = 1 := by kernel_rfl
theorem w_c40 : Tryz.prog.cellsOf 40 = 1 := by kernel_rfl
theorem w_c80 : Tryz.prog.cellsOf 80 = 2 := by kernel_rfl
theorem w_b3 : Tryz.prog.bytesOf 3 = 8 := by kernel_rfl
theorem w_b24 : Tryz.prog.bytesOf 24 = 24 := by kernel_rfl
theorem w_b80 : Tryz.prog.bytesOf 80 = 32 := by kernel_rfl
section
variable {H : Type} {enc : TypeId × Value → H} {w : World}
theorem w_opens40 : Opens enc Tryz.prog w 40 (Rsl (Rint .i64)) := opens_slice w_u40 (by rw [w_c3]; decide) (by rw [w_b3]; decide) (opens_int w_u3)
theorem w_opens80 : Opens enc Tryz.prog w 80 (Rcat [(Rint .i64), (Rsl (Rint .i64))]) := by
  refine opens_struct Tryz.underlying80 ⟨rfl, ?_, (opens_int w_u3), ?_, ?_, w_opens40, ?_⟩
  · show 0 + Tryz.prog.cellsOf 3 ≤ _
    simp only [w_c3, w_c40, w_c80]; try decide
  · show 1 = 0 + Tryz.prog.cellsOf 3
    simp only [w_c3, w_c40, w_c80]; try decide
  · show 0 + Tryz.prog.cellsOf 3 + Tryz.prog.cellsOf 40 ≤ _
    simp only [w_c3, w_c40, w_c80]; try decide
  · show 0 + Tryz.prog.cellsOf 3 + Tryz.prog.cellsOf 40 = _
    simp only [w_c3, w_c40, w_c80]; try decide
theorem w_opens24 : Opens enc Tryz.prog w 24 (Rsl (Rcat [(Rint .i64), (Rsl (Rint .i64))])) := opens_slice w_u24 (by rw [w_c80]; decide) (by rw [w_b80]; decide) w_opens80
end
theorem w_of3 : ∀ e, (Rint .i64) e → ∃ x : Int, (-9223372036854775808 ≤ x ∧ x ≤ 9223372036854775807) ∧ e = eI x := fun e ⟨n, h, he⟩ => ⟨n, wf_i64 h, he⟩
theorem w_of23 : ∀ e, (Rcat [(Rint .i64), (Rint .i64), (Rint .i64)]) e → ∃ x : Shape, ((-9223372036854775808 ≤ x.Data ∧ x.Data ≤ 9223372036854775807) ∧ (-9223372036854775808 ≤ x.Checks ∧ x.Checks ≤ 9223372036854775807) ∧ (-9223372036854775808 ≤ x.Width ∧ x.Width ≤ 9223372036854775807)) ∧ e = eShape x := fun e h => by
  obtain ⟨_, _, rfl, h0, _, _, rfl, h1, _, _, rfl, h2, rfl⟩ := h
  obtain ⟨a0, b0, rfl⟩ := w_of3 _ h0
  obtain ⟨a1, b1, rfl⟩ := w_of3 _ h1
  obtain ⟨a2, b2, rfl⟩ := w_of3 _ h2
  exact ⟨⟨a0, a1, a2⟩, ⟨b0, b1, b2⟩, rfl⟩
theorem w_of40 : ∀ e, (Rsl (Rint .i64)) e → ∃ x : (List Int), (x.length ≤ 4611686018427387904 ∧ ∀ y40, y40 ∈ x → (-9223372036854775808 ≤ y40 ∧ y40 ≤ 9223372036854775807)) ∧ e = eRow x := fun e ⟨es, h1, h2, he⟩ => by
  obtain ⟨l, hl, rfl⟩ := slice_of w_of3 h1 h2
  exact ⟨l, hl, he⟩
theorem w_of80 : ∀ e, (Rcat [(Rint .i64), (Rsl (Rint .i64))]) e → ∃ x : Leaf, ((-9223372036854775808 ≤ x.Number ∧ x.Number ≤ 9223372036854775807) ∧ (x.Words.length ≤ 4611686018427387904 ∧ ∀ y40, y40 ∈ x.Words → (-9223372036854775808 ≤ y40 ∧ y40 ≤ 9223372036854775807))) ∧ e = eLeaf x := fun e h => by
  obtain ⟨_, _, rfl, h0, _, _, rfl, h1, rfl⟩ := h
  obtain ⟨a0, b0, rfl⟩ := w_of3 _ h0
  obtain ⟨a1, b1, rfl⟩ := w_of40 _ h1
  exact ⟨⟨a0, a1⟩, ⟨b0, b1⟩, rfl⟩
theorem w_of24 : ∀ e, (Rsl (Rcat [(Rint .i64), (Rsl (Rint .i64))])) e → ∃ x : (List Leaf), (x.length ≤ 4611686018427387904 ∧ ∀ y24, y24 ∈ x → ((-9223372036854775808 ≤ y24.Number ∧ y24.Number ≤ 9223372036854775807) ∧ (y24.Words.length ≤ 4611686018427387904 ∧ ∀ y40, y40 ∈ y24.Words → (-9223372036854775808 ≤ y40 ∧ y40 ≤ 9223372036854775807)))) ∧ e = (fun l : (List Leaf) => [D.sl (l.map eLeaf)]) x := fun e ⟨es, h1, h2, he⟩ => by
  obtain ⟨l, hl, rfl⟩ := slice_of w_of80 h1 h2
  exact ⟨l, hl, he⟩
theorem law (hh : Maps Tryz.prog 14 [] (wB true)) {H : Type} {enc : TypeId × Value → H} {W : World} {args : Array Value} {ds : List (DataW H)} {p : List MemPlace} {base : Nat}
    (hval : ∀ (j : Nat) t v, Tryz.f8.params[j]? = some t → args[j]? = some v → Value.okWide Tryz.prog W .any base t v) (hA : DataW.TrodAll enc Tryz.prog W 0 (fun _ => true) true Tryz.f8.params.toList args.toList ds p)
    (hsz : (DataW.weightsEach Tryz.prog Tryz.f8.params.toList ds).all (· ≤ reachBytes) = true) : ds.length = 2 ∧ ∃ xs, VS ⟨fun n => n < W.heap.size, W.heap.size⟩ W nowhere xs args ∧ Maps Tryz.prog 8 xs (.v (.bool true)) := by
  have hp : Tryz.f8.params = #[23, 74] := rfl
  rw [hp] at hA hval hsz
  obtain ⟨v0, vs0, d0, ds0, p0, q0, ha, rfl, _, h0, hA⟩ := trodAll_cons hA
  obtain ⟨v1, vs1, d1, ds1, p1, q1, rfl, rfl, _, h1, hA⟩ := trodAll_cons hA
  obtain ⟨rfl, rfl, _⟩ := trodAll_nil hA
  obtain rfl : args = #[v0, v1] := by cases args; simp_all
  have hwt : ∀ {j : Nat} {t : TypeId} {d : DataW H}, [23, 74][j]? = some t → [d0, d1][j]? = some d → ∀ n, n ∈ d.weights Tryz.prog t → n ≤ reachBytes := fun ht hd n hn => by
    have := List.all_eq_true.1 hsz n (DataW.weights_mem_each ht hd n hn)
    simpa using this
  obtain ⟨es0, he0, k0⟩ := arg_struct (Rs := [(Rint .i64), (Rint .i64), (Rint .i64)]) Tryz.underlying23 (by
    refine ⟨rfl, ?_, (opens_int w_u3), ?_, ?_, (opens_int w_u3), ?_, ?_, (opens_int w_u3), ?_⟩
    · show 0 + Tryz.prog.cellsOf 3 ≤ _
      simp only [w_c3, w_c23]; try decide
    · show 1 = 0 + Tryz.prog.cellsOf 3
      simp only [w_c3, w_c23]; try decide
    · show 0 + Tryz.prog.cellsOf 3 + Tryz.prog.cellsOf 3 ≤ _
      simp only [w_c3, w_c23]; try decide
    · show 2 = 0 + Tryz.prog.cellsOf 3 + Tryz.prog.cellsOf 3
      simp only [w_c3, w_c23]; try decide
    · show 0 + Tryz.prog.cellsOf 3 + Tryz.prog.cellsOf 3 + Tryz.prog.cellsOf 3 ≤ _
      simp only [w_c3, w_c23]; try decide
    · show 0 + Tryz.prog.cellsOf 3 + Tryz.prog.cellsOf 3 + Tryz.prog.cellsOf 3 = _
      simp only [w_c3, w_c23]; try decide) (hval 0 23 v0 rfl rfl) h0 (hwt (j := 0) rfl rfl)
  obtain ⟨x0, q0, rfl⟩ := w_of23 _ he0
  obtain ⟨es1, hl1, he1, k1⟩ := arg_slice w_u74 (by rw [w_c24]; decide) (by rw [w_b24]; decide) w_opens24 (hval 1 74 v1 rfl rfl) h1 (hwt (j := 1) rfl rfl)
  obtain ⟨x1, q1, rfl⟩ := slice_of w_of24 hl1 he1
  refine ⟨rfl, _, ⟨rfl, fun i d u e1 e2 => ?_⟩, m_LeavesJoin hh x0 x1 q1.1 (fun l h => (q1.2 l h).1) (fun l h x hx => ((q1.2 l h).2 x hx).2.1)⟩
  match i, e1, e2 with
  | 0, e1, e2 => cases e1; cases e2; exact k0 _ fun _ h => h
  | 1, e1, e2 => cases e1; cases e2; exact k1 _ fun _ h => h

theorem holds (hh : Maps Tryz.prog 14 [] (wB true)) : YtmbbepdbjeciaaaGreat.Rows.LeavesJoinSaid :=
  OpenClaim.holds_of_wide 8 Tryz.f8 rfl rfl rfl rfl rfl rfl rfl ⟨rfl, rfl, rfl, rfl, rfl⟩ rfl rfl rfl rfl rfl (by kernel_rfl) Tryz.func8 (by kernel_rfl)
    (of_decide_eq_true (by kernel_rfl)) (by unfold Func.isWrapper; rw [if_neg (of_decide_eq_false (by kernel_rfl))]; exact ⟨rfl, rfl⟩)
    (fun os started H enc _ => by
      refine returnsInHanded_of_change_sized (C := Tryz.checked) (s := YtmbbepdbjeciaaaGreat.Rows.leavesJoinSpec) (conds := YtmbbepdbjeciaaaGreat.Rows.leavesJoinRow.domain) (apart := false) p_own started (by kernel_rfl) Tryz.func8
        (ChangeSpec.witness6 (enc := enc) (C := Tryz.checked) false ⟨#[], #[.agg #[.int .i64 0, .int .i64 0, .int .i64 0], .slice none 0 0], []⟩ 8 (by kernel_rfl) (by kernel_rfl) (by kernel_rfl) (by kernel_rfl)) ?_
      intro W base args ds gs before hval hW _ hsz _
      obtain ⟨p, q, hA, hV, _⟩ := id hW
      have hgs : gs = [] := by
        cases gs with
        | nil => rfl
        | cons => exact hV.elim
      subst hgs
      obtain ⟨hl, xs, hx, hm⟩ := law hh hval hA (by rw [List.append_nil] at hsz; exact hsz)
      refine law_true (tb := 4) p_laid (fun t ht => ?_) rfl w_u4 rfl hW (fun gs hg => ?_) hx hm
      · have hp : Tryz.f8.params.toList = [23, 74] := rfl
        rw [hp] at ht
        simp only [List.mem_cons, List.not_mem_nil, or_false] at ht
        rcases ht with rfl | rfl <;> exact ⟨by kernel_rfl, of_decide_eq_true (by kernel_rfl)⟩
      · subst hg
        match ds, hl with
        | [d1, d2], _ => rfl)
end Go.DL.RowLeavesJoin
