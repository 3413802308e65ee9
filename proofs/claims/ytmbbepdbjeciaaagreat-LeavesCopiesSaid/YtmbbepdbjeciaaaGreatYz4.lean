/- LeavesCopies, the row. -/
import Derived.Test.YtmbbepdbjeciaaaGreatRows
import Derived.Test.YtmbbepdbjeciaaaGreatYz3
import Derived.Test.YtmbbepdbjeciaaaGreatE13
set_option maxRecDepth 100000
namespace Go.DL.RowLeavesCopies
open Go.Proofs Go Go.RowKit Go.ChangeShapes Go.WideShapes Go.DL

theorem p_laid : laidOutB Tryz.prog = true := by kernel_rfl
theorem p_own : ownKnob Tryz.prog.godebug = none := by kernel_rfl
theorem w_u3 : Tryz.prog.underlying 3 = some (.int .i64) := by kernel_rfl
theorem w_u4 : Tryz.prog.underlying 4 = some (.bool) := by kernel_rfl
theorem w_u5 : Tryz.prog.underlying 5 = some (.int .u8) := by kernel_rfl
theorem w_u25 : Tryz.prog.underlying 25 = some (.slice 40) := by kernel_rfl
theorem w_u40 : Tryz.prog.underlying 40 = some (.slice 3) := by kernel_rfl
theorem w_u78 : Tryz.prog.underlying 78 = some (.slice 82) := by kernel_rfl
theorem w_u82 : Tryz.prog.underlying 82 = some (.slice 157) := by kernel_rfl
theorem w_u155 : Tryz.prog.underlying 155 = some (.int .u16) := by kernel_rfl
theorem w_c3 : Tryz.prog.cellsOf 3 = 1 := by kernel_rfl
theorem w_c4 : Tryz.prog.cellsOf 4 = 1 := by kernel_rfl
theorem w_c5 : Tryz.prog.cellsOf 5 = 1 := by kernel_rfl
theorem w_c23 : Tryz.prog.cellsOf 23 = 3 := by kernel_rfl
theorem w_c40 : Tryz.prog.cellsOf 40 = 1 := by kernel_rfl
theorem w_c82 : Tryz.prog.cellsOf 82 = 1 := by kernel_rfl
theorem w_c155 : Tryz.prog.cellsOf 155 = 1 := by kernel_rfl
theorem w_c157 : Tryz.prog.cellsOf 157 = 4 := by kernel_rfl
theorem w_b3 : Tryz.prog.bytesOf 3 = 8 := by kernel_rfl
theorem w_b40 : Tryz.prog.bytesOf 40 = 24 := by kernel_rfl
theorem w_b82 : Tryz.prog.bytesOf 82 = 24 := by kernel_rfl
theorem w_b157 : Tryz.prog.bytesOf 157 = 6 := by kernel_rfl
section
variable {H : Type} {enc : TypeId × Value → H} {w : World}
theorem w_opens40 : Opens enc Tryz.prog w 40 (Rsl (Rint .i64)) := opens_slice w_u40 (by rw [w_c3]; decide) (by rw [w_b3]; decide) (opens_int w_u3)
theorem w_opens157 : Opens enc Tryz.prog w 157 (Rcat [(Rint .u8), (Rint .u8), Rbool, (Rint .u16)]) := by
  refine opens_struct Tryz.underlying157 ⟨rfl, ?_, (opens_int w_u5), ?_, ?_, (opens_int w_u5), ?_, ?_, (opens_bool w_u4), ?_, ?_, (opens_int w_u155), ?_⟩
  · show 0 + Tryz.prog.cellsOf 5 ≤ _
    simp only [w_c4, w_c5, w_c155, w_c157]; try decide
  · show 1 = 0 + Tryz.prog.cellsOf 5
    simp only [w_c4, w_c5, w_c155, w_c157]; try decide
  · show 0 + Tryz.prog.cellsOf 5 + Tryz.prog.cellsOf 5 ≤ _
    simp only [w_c4, w_c5, w_c155, w_c157]; try decide
  · show 2 = 0 + Tryz.prog.cellsOf 5 + Tryz.prog.cellsOf 5
    simp only [w_c4, w_c5, w_c155, w_c157]; try decide
  · show 0 + Tryz.prog.cellsOf 5 + Tryz.prog.cellsOf 5 + Tryz.prog.cellsOf 4 ≤ _
    simp only [w_c4, w_c5, w_c155, w_c157]; try decide
  · show 3 = 0 + Tryz.prog.cellsOf 5 + Tryz.prog.cellsOf 5 + Tryz.prog.cellsOf 4
    simp only [w_c4, w_c5, w_c155, w_c157]; try decide
  · show 0 + Tryz.prog.cellsOf 5 + Tryz.prog.cellsOf 5 + Tryz.prog.cellsOf 4 + Tryz.prog.cellsOf 155 ≤ _
    simp only [w_c4, w_c5, w_c155, w_c157]; try decide
  · show 0 + Tryz.prog.cellsOf 5 + Tryz.prog.cellsOf 5 + Tryz.prog.cellsOf 4 + Tryz.prog.cellsOf 155 = _
    simp only [w_c4, w_c5, w_c155, w_c157]; try decide
theorem w_opens82 : Opens enc Tryz.prog w 82 (Rsl (Rcat [(Rint .u8), (Rint .u8), Rbool, (Rint .u16)])) := opens_slice w_u82 (by rw [w_c157]; decide) (by rw [w_b157]; decide) w_opens157
end
theorem w_of3 : ∀ e, (Rint .i64) e → ∃ x : Int, (-9223372036854775808 ≤ x ∧ x ≤ 9223372036854775807) ∧ e = eI x := fun e ⟨n, h, he⟩ => ⟨n, wf_i64 h, he⟩
theorem w_of23 : ∀ e, (Rcat [(Rint .i64), (Rint .i64), (Rint .i64)]) e → ∃ x : Shape, ((-9223372036854775808 ≤ x.Data ∧ x.Data ≤ 9223372036854775807) ∧ (-9223372036854775808 ≤ x.Checks ∧ x.Checks ≤ 9223372036854775807) ∧ (-9223372036854775808 ≤ x.Width ∧ x.Width ≤ 9223372036854775807)) ∧ e = eShape x := fun e h => by
  obtain ⟨_, _, rfl, h0, _, _, rfl, h1, _, _, rfl, h2, rfl⟩ := h
  obtain ⟨a0, b0, rfl⟩ := w_of3 _ h0
  obtain ⟨a1, b1, rfl⟩ := w_of3 _ h1
  obtain ⟨a2, b2, rfl⟩ := w_of3 _ h2
  exact ⟨⟨a0, a1, a2⟩, ⟨b0, b1, b2⟩, rfl⟩
theorem w_of40 : ∀ e, (Rsl (Rint .i64)) e → ∃ x : (List Int), (x.length ≤ 4611686018427387904 ∧ ∀ y40, y40 ∈ x → (-9223372036854775808 ≤ y40 ∧ y40 ≤ 9223372036854775807)) ∧ e = eRow x := fun e ⟨es, h1, h2, he⟩ => by
  obtain ⟨l, hl, rfl⟩ := slice_of w_of3 h1 h2
  exact ⟨l, hl, he⟩
theorem w_of5 : ∀ e, (Rint .u8) e → ∃ x : Int, (0 ≤ x ∧ x ≤ 255) ∧ e = (fun n : Int => [D.v (.int .u8 n)]) x := fun e ⟨n, h, he⟩ => ⟨n, wf_u8 h, he⟩
theorem w_of4 : ∀ e, Rbool e → ∃ x : Bool, True ∧ e = (fun b : Bool => [wB b]) x := fun e ⟨b, he⟩ => ⟨b, trivial, he⟩
theorem w_of155 : ∀ e, (Rint .u16) e → ∃ x : Int, (0 ≤ x ∧ x ≤ 65535) ∧ e = (fun n : Int => [D.v (.int .u16 n)]) x := fun e ⟨n, h, he⟩ => ⟨n, wf_u16 h, he⟩
theorem w_of157 : ∀ e, (Rcat [(Rint .u8), (Rint .u8), Rbool, (Rint .u16)]) e → ∃ x : Harm, ((0 ≤ x.Leaf ∧ x.Leaf ≤ 255) ∧ (0 ≤ x.At ∧ x.At ≤ 255) ∧ True ∧ (0 ≤ x.By ∧ x.By ≤ 65535)) ∧ e = eHarm x := fun e h => by
  obtain ⟨_, _, rfl, h0, _, _, rfl, h1, _, _, rfl, h2, _, _, rfl, h3, rfl⟩ := h
  obtain ⟨a0, b0, rfl⟩ := w_of5 _ h0
  obtain ⟨a1, b1, rfl⟩ := w_of5 _ h1
  obtain ⟨a2, b2, rfl⟩ := w_of4 _ h2
  obtain ⟨a3, b3, rfl⟩ := w_of155 _ h3
  exact ⟨⟨a0, a1, a2, a3⟩, ⟨b0, b1, b2, b3⟩, rfl⟩
theorem w_of82 : ∀ e, (Rsl (Rcat [(Rint .u8), (Rint .u8), Rbool, (Rint .u16)])) e → ∃ x : (List Harm), (x.length ≤ 4611686018427387904 ∧ ∀ y82, y82 ∈ x → ((0 ≤ y82.Leaf ∧ y82.Leaf ≤ 255) ∧ (0 ≤ y82.At ∧ y82.At ≤ 255) ∧ True ∧ (0 ≤ y82.By ∧ y82.By ≤ 65535))) ∧ e = (fun l : (List Harm) => [D.sl (l.map eHarm)]) x := fun e ⟨es, h1, h2, he⟩ => by
  obtain ⟨l, hl, rfl⟩ := slice_of w_of157 h1 h2
  exact ⟨l, hl, he⟩
theorem law (hh : Maps Tryz.prog 14 [] (wB true)) {H : Type} {enc : TypeId × Value → H} {W : World} {args : Array Value} {ds : List (DataW H)} {p : List MemPlace} {base : Nat}
    (hval : ∀ (j : Nat) t v, Tryz.f9.params[j]? = some t → args[j]? = some v → Value.okWide Tryz.prog W .any base t v) (hA : DataW.TrodAll enc Tryz.prog W 0 (fun _ => true) true Tryz.f9.params.toList args.toList ds p)
    (hsz : (DataW.weightsEach Tryz.prog Tryz.f9.params.toList ds).all (· ≤ reachBytes) = true) : ds.length = 4 ∧ ∃ xs, VS ⟨fun n => n < W.heap.size, W.heap.size⟩ W nowhere xs args ∧ Maps Tryz.prog 9 xs (.v (.bool true)) := by
  have hp : Tryz.f9.params = #[23, 25, 78, 5] := rfl
  rw [hp] at hA hval hsz
  obtain ⟨v0, vs0, d0, ds0, p0, q0, ha, rfl, _, h0, hA⟩ := trodAll_cons hA
  obtain ⟨v1, vs1, d1, ds1, p1, q1, rfl, rfl, _, h1, hA⟩ := trodAll_cons hA
  obtain ⟨v2, vs2, d2, ds2, p2, q2, rfl, rfl, _, h2, hA⟩ := trodAll_cons hA
  obtain ⟨v3, vs3, d3, ds3, p3, q3, rfl, rfl, _, h3, hA⟩ := trodAll_cons hA
  obtain ⟨rfl, rfl, _⟩ := trodAll_nil hA
  obtain rfl : args = #[v0, v1, v2, v3] := by cases args; simp_all
  have hwt : ∀ {j : Nat} {t : TypeId} {d : DataW H}, [23, 25, 78, 5][j]? = some t → [d0, d1, d2, d3][j]? = some d → ∀ n, n ∈ d.weights Tryz.prog t → n ≤ reachBytes := fun ht hd n hn => by
    have := List.all_eq_true.1 hsz n (DataW.weights_mem_each ht hd n hn)
    simpa using this
  obtain ⟨es0, he0, k0⟩ := arg_struct (Rs := [(Rint .i64), (Rint .i64), (Rint .i64)]) Tryz.underlying23 (by
    refine ⟨rfl, ?_, (opens_int w_u3), ?_, ?_, (opens_int w_u3), ?_, ?_, (opens_int w_u3), ?_⟩
    · show 0 + Tryz.prog.cellsOf 3 ≤ _
      simp only [w_c3, w_c23]; try decide
    · show 1 = 0 + Tryz.prog.cellsOf 3
      simp only [w_c3, w_c23]; try decide
    · show 0 + Tryz.prog.cellsOf 3 + Tryz.prog.cellsOf 3 ≤ _
      simp only [w_c3, w_c23]; try decide
    · show 2 = 0 + Tryz.prog.cellsOf 3 + Tryz.prog.cellsOf 3
      simp only [w_c3, w_c23]; try decide
    · show 0 + Tryz.prog.cellsOf 3 + Tryz.prog.cellsOf 3 + Tryz.prog.cellsOf 3 ≤ _
      simp only [w_c3, w_c23]; try decide
    · show 0 + Tryz.prog.cellsOf 3 + Tryz.prog.cellsOf 3 + Tryz.prog.cellsOf 3 = _
      simp only [w_c3, w_c23]; try decide) (hval 0 23 v0 rfl rfl) h0 (hwt (j := 0) rfl rfl)
  obtain ⟨x0, q0, rfl⟩ := w_of23 _ he0
  obtain ⟨es1, hl1, he1, k1⟩ := arg_slice w_u25 (by rw [w_c40]; decide) (by rw [w_b40]; decide) w_opens40 (hval 1 25 v1 rfl rfl) h1 (hwt (j := 1) rfl rfl)
  obtain ⟨x1, q1, rfl⟩ := slice_of w_of40 hl1 he1
  obtain ⟨es2, hl2, he2, k2⟩ := arg_slice w_u78 (by rw [w_c82]; decide) (by rw [w_b82]; decide) w_opens82 (hval 2 78 v2 rfl rfl) h2 (hwt (j := 2) rfl rfl)
  obtain ⟨x2, q2, rfl⟩ := slice_of w_of82 hl2 he2
  obtain ⟨x3, w3, k3⟩ := arg_int w_u5 (hval 3 5 v3 rfl rfl) h3
  have q3 := wf_u8 w3
  refine ⟨rfl, _, ⟨rfl, fun i d u e1 e2 => ?_⟩, m_LeavesCopies hh x0 x1 x2 x3 q1.1 (fun x h => (q1.2 x h).1) q2.1 (fun l h => (q2.2 l h).1) (fun l h y hy => let q := (q2.2 l h).2 y hy; ⟨q.1, q.2.1, q.2.2.2⟩) q3⟩
  match i, e1, e2 with
  | 0, e1, e2 => cases e1; cases e2; exact k0 _ fun _ h => h
  | 1, e1, e2 => cases e1; cases e2; exact k1 _ fun _ h => h
  | 2, e1, e2 => cases e1; cases e2; exact k2 _ fun _ h => h
  | 3, e1, e2 => cases e1; cases e2; exact k3 _ fun _ h => h

theorem holds (hh : Maps Tryz.prog 14 [] (wB true)) : YtmbbepdbjeciaaaGreat.Rows.LeavesCopiesSaid :=
  OpenClaim.holds_of_wide 9 Tryz.f9 rfl rfl rfl rfl rfl rfl rfl ⟨rfl, rfl, rfl, rfl, rfl⟩ rfl rfl rfl rfl rfl (by kernel_rfl) Tryz.func9 (by kernel_rfl)
    (of_decide_eq_true (by kernel_rfl)) (by unfold Func.isWrapper; rw [if_neg (of_decide_eq_false (by kernel_rfl))]; exact ⟨rfl, rfl⟩)
    (fun os started H enc _ => by
      refine returnsInHanded_of_change_sized (C := Tryz.checked) (s := YtmbbepdbjeciaaaGreat.Rows.leavesCopiesSpec) (conds := YtmbbepdbjeciaaaGreat.Rows.leavesCopiesRow.domain) (apart := false) p_own started (by kernel_rfl) Tryz.func9
        (ChangeSpec.witness6 (enc := enc) (C := Tryz.checked) false ⟨#[], #[.agg #[.int .i64 0, .int .i64 0, .int .i64 0], .slice none 0 0, .slice none 0 0, .int .u8 0], []⟩ 8 (by kernel_rfl) (by kernel_rfl) (by kernel_rfl) (by kernel_rfl)) ?_
      intro W base args ds gs before hval hW _ hsz _
      obtain ⟨p, q, hA, hV, _⟩ := id hW
      have hgs : gs = [] := by
        cases gs with
        | nil => rfl
        | cons => exact hV.elim
      subst hgs
      obtain ⟨hl, xs, hx, hm⟩ := law hh hval hA (by rw [List.append_nil] at hsz; exact hsz)
      refine law_true (tb := 4) p_laid (fun t ht => ?_) rfl w_u4 rfl hW (fun gs hg => ?_) hx hm
      · have hp : Tryz.f9.params.toList = [23, 25, 78, 5] := rfl
        rw [hp] at ht
        simp only [List.mem_cons, List.not_mem_nil, or_false] at ht
        rcases ht with rfl | rfl | rfl | rfl <;> exact ⟨by kernel_rfl, of_decide_eq_true (by kernel_rfl)⟩
      · subst hg
        match ds, hl with
        | [d1, d2, d3, d4], _ => rfl)
end Go.DL.RowLeavesCopies
