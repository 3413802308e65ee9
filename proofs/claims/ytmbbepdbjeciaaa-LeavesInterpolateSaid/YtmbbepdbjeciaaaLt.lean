/- LeavesInterpolate, the row, given the chapter's examples. -/
import Derived.Test.YtmbbepdbjeciaaaLr
import Derived.Test.YtmbbepdbjeciaaaLj
set_option maxRecDepth 100000
namespace Go.DL
open Go.Proofs Go Go.RowKit Go.ChangeShapes Go.WideShapes

theorem interpolate_law (hh : Maps Try.prog 7 [] (wB true)) {H : Type} {enc : TypeId × Value → H} {W : World} {args : Array Value} {ds : List (DataW H)} {p : List MemPlace} {base : Nat}
    (hval : ∀ (j : Nat) t v, Try.f4.params[j]? = some t → args[j]? = some v → Value.okWide Try.prog W .any base t v) (hA : DataW.TrodAll enc Try.prog W 0 (fun _ => true) true Try.f4.params.toList args.toList ds p)
    (hsz : (DataW.weightsEach Try.prog Try.f4.params.toList ds).all (· ≤ reachBytes) = true) : ds.length = 4 ∧ ∃ xs, VS ⟨fun n => n < W.heap.size, W.heap.size⟩ W nowhere xs args ∧ Maps Try.prog 4 xs (.v (.bool true)) := by
  have hp : Try.f4.params = #[22, 3, 23, 3] := rfl
  rw [hp] at hA hval hsz
  obtain ⟨v0, vs0, d0, ds0, p0, q0, ha, rfl, _, h0, hA⟩ := trodAll_cons hA
  obtain ⟨v1, vs1, d1, ds1, p1, q1, rfl, rfl, _, h1, hA⟩ := trodAll_cons hA
  obtain ⟨v2, vs2, d2, ds2, p2, q2, rfl, rfl, _, h2, hA⟩ := trodAll_cons hA
  obtain ⟨v3, vs3, d3, ds3, p3, q3, rfl, rfl, _, h3, hA⟩ := trodAll_cons hA
  obtain ⟨rfl, rfl, _⟩ := trodAll_nil hA
  obtain rfl : args = #[v0, v1, v2, v3] := by cases args; simp_all
  have hwt : ∀ {j : Nat} {t : TypeId} {d : DataW H}, [22, 3, 23, 3][j]? = some t → [d0, d1, d2, d3][j]? = some d → ∀ n, n ∈ d.weights Try.prog t → n ≤ reachBytes := fun ht hd n hn => by
    have := List.all_eq_true.1 hsz n (DataW.weights_mem_each ht hd n hn)
    simpa using this
  obtain ⟨es, hes, hei, k0⟩ := arg_slice u22 (by rw [c3]; decide) (by rw [b3]; decide) (opens_int u3) (hval 0 22 v0 rfl rfl) h0 (hwt (j := 0) rfl rfl)
  obtain ⟨a0, hf, k1⟩ := arg_int u3 (hval 1 3 v1 rfl rfl) h1
  obtain ⟨fs, hfs, hfd, k2⟩ := arg_slice u23 (by rw [c37]; decide) (by rw [b37]; decide) opens_dot (hval 2 23 v2 rfl rfl) h2 (hwt (j := 2) rfl rfl)
  obtain ⟨n, _, k3⟩ := arg_int u3 (hval 3 3 v3 rfl rfl) h3
  obtain ⟨c, rfl⟩ := ints_of hei
  obtain ⟨l, rfl⟩ := dots_of hfd
  have hml : reachBytes ≤ 4611686018427387904 := by decide
  have hf2 : -9223372036854775808 ≤ a0 ∧ a0 ≤ 9223372036854775807 := by
    simp only [Lit.wf, Bool.and_eq_true, decide_eq_true_eq] at hf
    exact hf
  refine ⟨rfl, _, ⟨rfl, fun i d u e1 e2 => ?_⟩, m_LeavesInterpolate hh c a0 l n (by simp at hes; omega) (by simp at hfs; omega) hf2⟩
  match i, e1, e2 with
  | 0, e1, e2 => cases e1; cases e2; exact k0 _ fun _ h => h
  | 1, e1, e2 => cases e1; cases e2; exact k1 _ fun _ h => h
  | 2, e1, e2 => cases e1; cases e2; exact k2 _ fun _ h => h
  | 3, e1, e2 => cases e1; cases e2; exact k3 _ fun _ h => h

theorem interpolate_holds (hh : Maps Try.prog 7 [] (wB true)) : Ytmbbepdbjeciaaa.Rows.LeavesInterpolateSaid :=
  OpenClaim.holds_of_wide 4 Try.f4 rfl rfl rfl rfl rfl rfl rfl ⟨rfl, rfl, rfl, rfl, rfl⟩ rfl rfl rfl rfl rfl (by kernel_rfl) Try.func4 (by kernel_rfl)
    (of_decide_eq_true (by kernel_rfl)) (by unfold Func.isWrapper; rw [if_neg (of_decide_eq_false (by kernel_rfl))]; exact ⟨rfl, rfl⟩)
    (fun os started H enc _ => by
      refine returnsInHanded_of_change_sized (C := Try.checked) (s := Ytmbbepdbjeciaaa.Rows.leavesInterpolateSpec) (conds := Ytmbbepdbjeciaaa.Rows.leavesInterpolateRow.domain) (apart := false) p_own started (by kernel_rfl) Try.func4
        (ChangeSpec.witness6 (enc := enc) (C := Try.checked) false ⟨#[], #[.slice none 0 0, .int .i64 0, .slice none 0 0, .int .i64 0], []⟩ 8 (by kernel_rfl) (by kernel_rfl) (by kernel_rfl) (by kernel_rfl)) ?_
      intro W base args ds gs before hval hW _ hsz _
      obtain ⟨p, q, hA, hV, _⟩ := id hW
      have hgs : gs = [] := by
        cases gs with
        | nil => rfl
        | cons => exact hV.elim
      subst hgs
      obtain ⟨hl, xs, hx, hm⟩ := interpolate_law hh hval hA (by rw [List.append_nil] at hsz; exact hsz)
      refine law_true (tb := 4) p_laid (fun t ht => ?_) rfl u4 rfl hW (fun gs hg => ?_) hx hm
      · have hp : Try.f4.params.toList = [22, 3, 23, 3] := rfl
        rw [hp] at ht
        simp only [List.mem_cons, List.not_mem_nil, or_false] at ht
        rcases ht with rfl | rfl | rfl | rfl <;> exact ⟨by kernel_rfl, of_decide_eq_true (by kernel_rfl)⟩
      · subst hg
        match ds, hl with
        | [d1, d2, d3, d4], _ => rfl)
end Go.DL
