/- The parser's deferred function does nothing behind a frame that returns. -/
import Derived.Test.YtignbealfpbpoaaGreatDoorWe
set_option linter.all false
set_option maxRecDepth 100000
set_option maxHeartbeats 4000000
namespace Go.DL
open Go.Proofs Go Go.RowKit

theorem put_eval {a : Act} {i : Nat} {x : Value} (h : i < a.tmps.size) : (a.put (some i) x).eval (.tmp i) = x := by
  simp [Act.put, Act.eval, h]
theorem put_size {a : Act} {o : Option Nat} {x : Value} : (a.put o x).tmps.size = a.tmps.size := by cases o <;> simp [Act.put]
theorem neq_nil (w : World) : (do eqGuard .neq 20 (.tmp 4) (.const .nilIface) .nilIface .nilIface; binOp .neq 20 .nilIface .nilIface : Sem Value).run Tryz.prog w = .ok (.bool false) w := by
  obtain ⟨r, h1, h2⟩ := run_binO (P := Tryz.prog) (A := ⟨fun _ => False, 0⟩) (w := w) (φ := nowhere) (op := .neq) (t := 20) (x := .v .nilIface) (y := .v .nilIface) (d := .v (.bool false)) (.tmp 4) (.const .nilIface) (.v _ _) (.v _ _) rfl
  rw [h1, h2.v_inv]
theorem quiet143 : Quiet Tryz.prog 143 := by
  refine ⟨enters_of Tryz.func143 rfl rfl, fun vs w => ?_⟩
  refine callsDIn_of_wpSIn (c := bodyC Tryz.f143) Tryz.func143 rfl trivial fun c₀ cs hm => ?_
  have hsz : 9 ≤ (vs ++ Array.replicate (Tryz.f143.ntmps - vs.size) undef).size := by
    have : Tryz.f143.ntmps = 9 := rfl
    simp [this]; omega
  generalize ha : ({ tmps := vs ++ Array.replicate (Tryz.f143.ntmps - vs.size) undef, defers := [] } : Act) = a
  have hs : 9 ≤ a.tmps.size := by rw [← ha]; exact hsz
  have hd : a.defers = [] := by rw [← ha]
  have hrec : recoverD (c₀ :: cs) = none := by simp [recoverD, hm]
  refine wpSIn_seq (wpSIn_region ?_)
  show wpOpsSIn Fence.wide 0 Tryz.prog _ _ [0, 1] a (c₀ :: cs) w
  simp [wpOpsSIn, Region.wanted, execOp, resolve, invoke, builtin, hrec, put_eval, put_size, show 3 < a.tmps.size by omega, Fence.wide, Exit.thenS]
  refine wpSIn_seq (wpSIn_region ?_)
  generalize ha2 : (a.put (some 3) Value.nilIface).put (some 2) Value.nilIface = a2
  have hs2 : a2.tmps.size = a.tmps.size := by rw [← ha2, put_size, put_size]
  have hd2 : a2.defers = [] := by rw [← ha2, put_defers, put_defers, hd]
  have he2 : a2.eval (.tmp 2) = .nilIface := by rw [← ha2]; exact put_eval (by rw [put_size]; omega)
  show wpOpsSIn Fence.wide 0 Tryz.prog _ _ [0, 1] a2 (c₀ :: cs) w
  have hn := neq_nil w
  have h4 : (a2.put (some 4) Value.nilIface).eval (.tmp 4) = .nilIface := put_eval (by omega)
  obtain ⟨w', g1, g2⟩ : ∃ w', (eqGuard .neq 20 (.tmp 4) (.const .nilIface) .nilIface .nilIface).run Tryz.prog w = .ok () w' ∧ (binOp .neq 20 .nilIface .nilIface).run Tryz.prog w' = .ok (.bool false) w := by
    simp only [Sem.run_bind] at hn
    cases hx : (eqGuard .neq 20 (.tmp 4) (.const .nilIface) .nilIface .nilIface).run Tryz.prog w with
    | ok u w' => exact ⟨w', by cases u; rfl, by simpa [hx] using hn⟩
    | halt q w' => simp [hx] at hn
  have hcn : ∀ a : Act, a.eval (.const Value.nilIface) = Value.nilIface := fun _ => rfl
  simp [wpOpsSIn, Region.wanted, execOp, he2, h4, hcn, g1, g2, Exit.thenS, Fence.wide]
  refine wpSIn_cond (t := false) ?_ ?_
  · exact put_eval (by rw [put_size]; omega)
  · refine wpSIn_of_wpIn rfl ?_
    refine wpIn_skip ?_
    refine ⟨by rw [put_defers, put_defers, hd2], .returning, ?_, ?_⟩
    · cases c₀; simp only at hm; subst hm; rfl
    · have hr : Tryz.f143.results = #[] := rfl
      exact ⟨.tuple #[], by simp [results, hr], ⟨_, rfl⟩, rfl, rfl⟩
end Go.DL
