/- DeedShares, the row. -/
import Derived.Test.YtignbealfpbpoaaGreatDoorRows
import Derived.Test.YtignbealfpbpoaaGreatDoorWd
import Derived.Test.YtignbealfpbpoaaGreatDoorE8
import Derived.Test.YtignbealfpbpoaaGreatDoorWa1
import Derived.Test.YtignbealfpbpoaaGreatDoorWa3
import Derived.Test.YtignbealfpbpoaaGreatDoorWa4
import Derived.JoinedOf
import Derived.Test.YtignbealfpbpoaaGreatDoorWz
set_option linter.all false
set_option maxRecDepth 100000
namespace Go.DL.RowDeedShares
open Go.Proofs Go Go.RowKit Go.ChangeShapes Go.WideShapes Go.DL

theorem p_laid : laidOutB Tryz.prog = true := d_laid
theorem p_own : ownKnob Tryz.prog.godebug = none := by kernel_rfl
theorem w_u3 : Tryz.prog.underlying 3 = some (.int .i64) := by kernel_rfl
theorem w_u4 : Tryz.prog.underlying 4 = some (.bool) := by kernel_rfl
theorem w_c3 : Tryz.prog.cellsOf 3 = 1 := by kernel_rfl
theorem w_c38 : Tryz.prog.cellsOf 38 = 2 := by kernel_rfl
section
variable {H : Type} {enc : TypeId × Value → H} {w : World}
end
theorem w_of3 : ∀ e, (Rint .i64) e → ∃ x : Int, (-9223372036854775808 ≤ x ∧ x ≤ 9223372036854775807) ∧ e = eI x := fun e ⟨n, h, he⟩ => ⟨n, wf_i64 h, he⟩
theorem w_of38 : ∀ e, (Rcat [(Rint .i64), (Rint .i64)]) e → ∃ x : (Int × Int), ((-9223372036854775808 ≤ x.1 ∧ x.1 ≤ 9223372036854775807) ∧ (-9223372036854775808 ≤ x.2 ∧ x.2 ≤ 9223372036854775807)) ∧ e = (fun p : Int × Int => [wI p.1, wI p.2]) x := fun e h => by
  obtain ⟨_, _, rfl, h0, _, _, rfl, h1, rfl⟩ := h
  obtain ⟨a0, b0, rfl⟩ := w_of3 _ h0
  obtain ⟨a1, b1, rfl⟩ := w_of3 _ h1
  exact ⟨⟨a0, a1⟩, ⟨b0, b1⟩, rfl⟩
theorem law (hh : Maps Tryz.prog 20 [] (wB true)) {H : Type} {enc : TypeId × Value → H} {W : World} {args : Array Value} {ds : List (DataW H)} {p : List MemPlace} {base : Nat}
    (hval : ∀ (j : Nat) t v, Tryz.f9.params[j]? = some t → args[j]? = some v → Value.okWide Tryz.prog W .any base t v) (hA : DataW.TrodAll enc Tryz.prog W 0 (fun _ => true) true Tryz.f9.params.toList args.toList ds p)
    (hsz : (DataW.weightsEach Tryz.prog Tryz.f9.params.toList ds).all (· ≤ reachBytes) = true) : ds.length = 2 ∧ ∃ xs, VS ⟨fun n => n < W.heap.size, W.heap.size⟩ W nowhere xs args ∧ Maps Tryz.prog 9 xs (.v (.bool true)) := by
  have hp : Tryz.f9.params = #[38, 38] := rfl
  rw [hp] at hA hval hsz
  obtain ⟨v0, vs0, d0, ds0, p0, q0, ha, rfl, _, h0, hA⟩ := trodAll_cons hA
  obtain ⟨v1, vs1, d1, ds1, p1, q1, rfl, rfl, _, h1, hA⟩ := trodAll_cons hA
  obtain ⟨rfl, rfl, _⟩ := trodAll_nil hA
  obtain rfl : args = #[v0, v1] := by cases args; simp_all
  have hwt : ∀ {j : Nat} {t : TypeId} {d : DataW H}, [38, 38][j]? = some t → [d0, d1][j]? = some d → ∀ n, n ∈ d.weights Tryz.prog t → n ≤ reachBytes := fun ht hd n hn => by
    have := List.all_eq_true.1 hsz n (DataW.weights_mem_each ht hd n hn)
    simpa using this
  obtain ⟨es0, he0, k0⟩ := arg_struct (Rs := [(Rint .i64), (Rint .i64)]) Tryz.underlying38 (by
    refine ⟨rfl, ?_, (opens_int w_u3), ?_, ?_, (opens_int w_u3), ?_⟩
    · show 0 + Tryz.prog.cellsOf 3 ≤ _
      simp only [w_c3, w_c38]; try decide
    · show 1 = 0 + Tryz.prog.cellsOf 3
      simp only [w_c3, w_c38]; try decide
    · show 0 + Tryz.prog.cellsOf 3 + Tryz.prog.cellsOf 3 ≤ _
      simp only [w_c3, w_c38]; try decide
    · show 0 + Tryz.prog.cellsOf 3 + Tryz.prog.cellsOf 3 = _
      simp only [w_c3, w_c38]; try decide) (hval 0 38 v0 rfl rfl) h0 (hwt (j := 0) rfl rfl)
  obtain ⟨x0, q0, rfl⟩ := w_of38 _ he0
  obtain ⟨es1, he1, k1⟩ := arg_struct (Rs := [(Rint .i64), (Rint .i64)]) Tryz.underlying38 (by
    refine ⟨rfl, ?_, (opens_int w_u3), ?_, ?_, (opens_int w_u3), ?_⟩
    · show 0 + Tryz.prog.cellsOf 3 ≤ _
      simp only [w_c3, w_c38]; try decide
    · show 1 = 0 + Tryz.prog.cellsOf 3
      simp only [w_c3, w_c38]; try decide
    · show 0 + Tryz.prog.cellsOf 3 + Tryz.prog.cellsOf 3 ≤ _
      simp only [w_c3, w_c38]; try decide
    · show 0 + Tryz.prog.cellsOf 3 + Tryz.prog.cellsOf 3 = _
      simp only [w_c3, w_c38]; try decide) (hval 1 38 v1 rfl rfl) h1 (hwt (j := 1) rfl rfl)
  obtain ⟨x1, q1, rfl⟩ := w_of38 _ he1
  refine ⟨rfl, _, ⟨rfl, fun i d u e1 e2 => ?_⟩, m_DeedShares hh x0.1 x0.2 x1.1 x1.2 q0.1.2 q0.2.2 q1.1.2 q1.2.2⟩
  match i, e1, e2 with
  | 0, e1, e2 => cases e1; cases e2; exact k0 _ fun _ h => h
  | 1, e1, e2 => cases e1; cases e2; exact k1 _ fun _ h => h

theorem lifted (os : Os) (started : os.Started) (H : Type) (enc : TypeId × Value → H) :
    ReturnsInHanded {} Tryz.checked os 9 .any (fun w args => (YtignbealfpbpoaaGreatDoor.Rows.deedSharesSpec.pre enc Tryz.prog Tryz.f9 [] false w args ∧ laidMetH Tryz.prog L7 w) ∧ sizedMet enc Tryz.prog Tryz.f9 (OpenSpec.ofChange YtignbealfpbpoaaGreatDoor.Rows.deedSharesSpec) false w args)
      (YtignbealfpbpoaaGreatDoor.Rows.deedSharesSpec.post enc Tryz.prog Tryz.f9 false true false false) := by
  refine returnsInHanded_of_change_and (C := Tryz.checked) (X := fun w _ => laidMetH Tryz.prog L7 w) (fun _ _ _ hh h => h.of_heap hh) p_own started (by kernel_rfl) Tryz.func9
    (ChangeSpec.witness_shaped (enc := enc) (C := Tryz.checked) (os := os) (X := fun w _ => laidMetH Tryz.prog L7 w) false (World.laidAll Tryz.prog os L7) #[.agg #[.int .i64 0, .int .i64 0], .agg #[.int .i64 0, .int .i64 0]] 8 (World.laidAll_os _ _ _) (World.shaped_of_ZipB (by kernel_rfl) (by kernel_rfl)) (by kernel_rfl) (by kernel_rfl) (by kernel_rfl) (d_met os _)) ?_
  intro W base args ds gs before hval hW _ hsz hL _
  obtain ⟨p, q, hA, hV, _⟩ := id hW
  have hgs : gs = [] := by
    cases gs with
    | nil => rfl
    | cons => exact hV.elim
  subst hgs
  obtain ⟨hl, xs, hx, hm⟩ := law m_sanity hval hA (by rw [List.append_nil] at hsz; exact hsz)
  refine law_true (tb := 4) p_laid (fun t ht => ?_) rfl w_u4 rfl hW (fun gs hg => ?_) hx hm (laid_of hL)
  · have hp : Tryz.f9.params.toList = [38, 38] := rfl
    rw [hp] at ht
    simp only [List.mem_cons, List.not_mem_nil, or_false] at ht
    rcases ht with rfl | rfl <;> exact ⟨by kernel_rfl, of_decide_eq_true (by kernel_rfl)⟩
  · subst hg
    match ds, hl with
    | [d1, d2], _ => rfl

theorem j_place : (YtignbealfpbpoaaGreatDoor.Rows.deedSharesRow.inPlace == Tryz.prog.inPlace 9) = true := by kernel_rfl
theorem j_unf : (YtignbealfpbpoaaGreatDoor.Rows.deedSharesRow.unfollowed == Tryz.prog.unfollowed 9) = true := by kernel_rfl
theorem j_rec : (YtignbealfpbpoaaGreatDoor.Rows.deedSharesRow.recurses == Tryz.prog.recurses 9) = true := by kernel_rfl
theorem j_vars : (YtignbealfpbpoaaGreatDoor.Rows.deedSharesRow.named == Tryz.prog.varsNamed 9) = true := by kernel_rfl
theorem band {a b : Bool} (h : a = true) (k : b = true) : (a && b) = true := by rw [h, k]; rfl
theorem joined : joinedFacts Tryz.prog 9 Tryz.f9 YtignbealfpbpoaaGreatDoor.Rows.deedSharesSpec YtignbealfpbpoaaGreatDoor.Rows.deedSharesRow = true := by
  unfold joinedFacts
  exact (band (band (band (band (band (band (band (band (band (band (band (band (band (band (band (band (band (band (band (band (band (band (band (band (band (band (band (band (band (band (band (by kernel_rfl) d_laid) d_maps) (by kernel_rfl)) (by kernel_rfl)) (by kernel_rfl)) (by kernel_rfl)) (by kernel_rfl)) (by kernel_rfl)) j_place) j_unf) j_rec) j_vars) (by kernel_rfl)) (by kernel_rfl)) (by kernel_rfl)) (by kernel_rfl)) (by kernel_rfl)) (by kernel_rfl)) (by kernel_rfl)) (by kernel_rfl)) (by kernel_rfl)) d_keys) (by kernel_rfl)) d_heard) d_may) d_lift) d_make) (by kernel_rfl)) (by kernel_rfl)) (by kernel_rfl)) (by kernel_rfl))
theorem holds : YtignbealfpbpoaaGreatDoor.Rows.DeedSharesSaid :=
  OpenClaim.holds_of_wide 9 Tryz.f9 rfl rfl rfl rfl rfl rfl rfl ⟨rfl, rfl, rfl, rfl, rfl⟩ rfl rfl rfl rfl rfl (by kernel_rfl) Tryz.func9 joined
    (of_decide_eq_true (by kernel_rfl)) (by unfold Func.isWrapper; rw [if_neg (of_decide_eq_false (by kernel_rfl))]; exact ⟨rfl, rfl⟩)
    (fun os started H enc _ => lifted os started H enc)
end Go.DL.RowDeedShares
