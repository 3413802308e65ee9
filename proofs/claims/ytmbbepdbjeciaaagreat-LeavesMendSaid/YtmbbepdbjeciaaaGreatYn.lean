/- LeavesMend, the row. -/
import Derived.Test.YtmbbepdbjeciaaaGreatYe
import Derived.Test.YtmbbepdbjeciaaaGreatYl
set_option maxRecDepth 100000
namespace Go.DL
open Go.Proofs Go Go.RowKit Go.ChangeShapes Go.WideShapes

theorem mend_law (hh : Maps Tryz.prog 14 [] (wB true)) {H : Type} {enc : TypeId × Value → H} {W : World} {args : Array Value} {ds : List (DataW H)} {p : List MemPlace} {base : Nat}
    (hval : ∀ (j : Nat) t v, Tryz.f4.params[j]? = some t → args[j]? = some v → Value.okWide Tryz.prog W .any base t v) (hA : DataW.TrodAll enc Tryz.prog W 0 (fun _ => true) true Tryz.f4.params.toList args.toList ds p)
    (hsz : (DataW.weightsEach Tryz.prog Tryz.f4.params.toList ds).all (· ≤ reachBytes) = true) : ds.length = 2 ∧ ∃ xs, VS ⟨fun n => n < W.heap.size, W.heap.size⟩ W nowhere xs args ∧ Maps Tryz.prog 4 xs (.v (.bool true)) := by
  have hp : Tryz.f4.params = #[23, 24] := rfl
  rw [hp] at hA hval hsz
  obtain ⟨v0, vs0, d0, ds0, p0, q0, ha, rfl, _, h0, hA⟩ := trodAll_cons hA
  obtain ⟨v1, vs1, d1, ds1, p1, q1, rfl, rfl, _, h1, hA⟩ := trodAll_cons hA
  obtain ⟨rfl, rfl, _⟩ := trodAll_nil hA
  obtain rfl : args = #[v0, v1] := by cases args; simp_all
  have hwt : ∀ {j : Nat} {t : TypeId} {d : DataW H}, [23, 24][j]? = some t → [d0, d1][j]? = some d → ∀ n, n ∈ d.weights Tryz.prog t → n ≤ reachBytes := fun ht hd n hn => by
    have := List.all_eq_true.1 hsz n (DataW.weights_mem_each ht hd n hn)
    simpa using this
  obtain ⟨cs, hcs, k0⟩ := arg_struct Tryz.underlying23 shape_fields (hval 0 23 v0 rfl rfl) h0 (hwt (j := 0) rfl rfl)
  obtain ⟨es, hes, hei, k1⟩ := arg_slice u24 (by rw [c80]; decide) (by rw [b80]; decide) opens_leaf (hval 1 24 v1 rfl rfl) h1 (hwt (j := 1) rfl rfl)
  obtain ⟨s, rfl⟩ := shape_of hcs
  obtain ⟨l, hlw, rfl⟩ := leaves_of hei
  have hr := reach_short
  refine ⟨rfl, _, ⟨rfl, fun i x u e1 e2 => ?_⟩, m_LeavesMend hh s l (by simp at hes; omega) hlw⟩
  match i, e1, e2 with
  | 0, e1, e2 => cases e1; cases e2; exact k0 _ fun _ h => h
  | 1, e1, e2 => cases e1; cases e2; exact k1 _ fun _ h => h

theorem mend_holds (hh : Maps Tryz.prog 14 [] (wB true)) : YtmbbepdbjeciaaaGreat.Rows.LeavesMendSaid :=
  OpenClaim.holds_of_wide 4 Tryz.f4 rfl rfl rfl rfl rfl rfl rfl ⟨rfl, rfl, rfl, rfl, rfl⟩ rfl rfl rfl rfl rfl (by kernel_rfl) Tryz.func4 (by kernel_rfl)
    (of_decide_eq_true (by kernel_rfl)) (by unfold Func.isWrapper; rw [if_neg (of_decide_eq_false (by kernel_rfl))]; exact ⟨rfl, rfl⟩)
    (fun os started H enc _ => by
      refine returnsInHanded_of_change_sized (C := Tryz.checked) (s := YtmbbepdbjeciaaaGreat.Rows.leavesMendSpec) (conds := YtmbbepdbjeciaaaGreat.Rows.leavesMendRow.domain) (apart := false) p_own started (by kernel_rfl) Tryz.func4
        (ChangeSpec.witness6 (enc := enc) (C := Tryz.checked) false ⟨#[], #[.agg #[.int .i64 0, .int .i64 0, .int .i64 0], .slice none 0 0], []⟩ 8 (by kernel_rfl) (by kernel_rfl) (by kernel_rfl) (by kernel_rfl)) ?_
      intro W base args ds gs before hval hW _ hsz _
      obtain ⟨p, q, hA, hV, _⟩ := id hW
      have hgs : gs = [] := by
        cases gs with
        | nil => rfl
        | cons => exact hV.elim
      subst hgs
      obtain ⟨hl, xs, hx, hm⟩ := mend_law hh hval hA (by rw [List.append_nil] at hsz; exact hsz)
      refine law_true (tb := 4) p_laid (fun t ht => ?_) rfl u4 rfl hW (fun gs hg => ?_) hx hm
      · have hp : Tryz.f4.params.toList = [23, 24] := rfl
        rw [hp] at ht
        simp only [List.mem_cons, List.not_mem_nil, or_false] at ht
        rcases ht with rfl | rfl <;> exact ⟨by kernel_rfl, of_decide_eq_true (by kernel_rfl)⟩
      · subst hg
        match ds, hl with
        | [d1, d2], _ => rfl)
end Go.DL
