/- LeavesWords, the row, given the chapter's examples. -/
import Derived.Test.YtmbbepdbjeciaaaRows
import Derived.Test.YtmbbepdbjeciaaaLd
import Derived.Test.YtmbbepdbjeciaaaDl29
set_option maxRecDepth 100000
namespace Go.DL
open Go.Proofs Go Go.RowKit Go.ChangeShapes Go.WideShapes

theorem lists_of {α : Type} {g : α → List D} : ∀ {es : List (List D)}, (∀ e, e ∈ es → ∃ a, e = g a) → ∃ l : List α, es = l.map g
  | [], _ => ⟨[], rfl⟩
  | e :: es, h => by
    obtain ⟨a, rfl⟩ := h e (List.mem_cons_self ..)
    obtain ⟨l, rfl⟩ := lists_of fun e he => h e (List.mem_cons_of_mem _ he)
    exact ⟨a :: l, rfl⟩
theorem ints_of {es : List (List D)} (h : ∀ e, e ∈ es → Rint .i64 e) : ∃ l : List Int, es = l.map eI :=
  lists_of fun e he => by obtain ⟨n, _, rfl⟩ := h e he; exact ⟨n, rfl⟩
theorem dots_of {es : List (List D)} (h : ∀ e, e ∈ es → Rcat [Rint .i64, Rint .i64] e) : ∃ l : List Dot, es = l.map eDot :=
  lists_of fun e he => by
    obtain ⟨_, _, rfl, ⟨a, _, rfl⟩, _, _, rfl, ⟨b, _, rfl⟩, rfl⟩ := h e he
    exact ⟨⟨a, b⟩, rfl⟩
theorem p_laid : laidOutB Try.prog = true := by kernel_rfl
theorem p_own : ownKnob Try.prog.godebug = none := by kernel_rfl
theorem u3 : Try.prog.underlying 3 = some (.int .i64) := by kernel_rfl
theorem u4 : Try.prog.underlying 4 = some .bool := by kernel_rfl
theorem u22 : Try.prog.underlying 22 = some (.slice 3) := by kernel_rfl
theorem u23 : Try.prog.underlying 23 = some (.slice 37) := by kernel_rfl
theorem c3 : Try.prog.cellsOf 3 = 1 := by kernel_rfl
theorem c37 : Try.prog.cellsOf 37 = 2 := by kernel_rfl

theorem b3 : Try.prog.bytesOf 3 = 8 := by kernel_rfl
theorem b37 : Try.prog.bytesOf 37 = 16 := by kernel_rfl

theorem opens_dot {H : Type} {enc : TypeId × Value → H} {w : World} : Opens enc Try.prog w 37 (Rcat [Rint .i64, Rint .i64]) := by
  refine opens_struct Try.underlying37 ⟨rfl, ?_, opens_int u3, ?_, ?_, opens_int u3, ?_⟩
  · show 0 + Try.prog.cellsOf 3 ≤ _
    rw [c3, c37]; decide
  · show 1 = 0 + Try.prog.cellsOf 3
    rw [c3]
  · show 0 + Try.prog.cellsOf 3 + Try.prog.cellsOf 3 ≤ _
    rw [c3, c37]; decide
  · show 0 + Try.prog.cellsOf 3 + Try.prog.cellsOf 3 = _
    rw [c3, c37]

theorem words_law (hh : Maps Try.prog 7 [] (wB true)) {H : Type} {enc : TypeId × Value → H} {W : World} {args : Array Value} {ds : List (DataW H)} {p : List MemPlace} {base : Nat}
    (hval : ∀ (j : Nat) t v, Try.f3.params[j]? = some t → args[j]? = some v → Value.okWide Try.prog W .any base t v) (hA : DataW.TrodAll enc Try.prog W 0 (fun _ => true) true Try.f3.params.toList args.toList ds p)
    (hsz : (DataW.weightsEach Try.prog Try.f3.params.toList ds).all (· ≤ reachBytes) = true) : ds.length = 4 ∧ ∃ xs, VS ⟨fun n => n < W.heap.size, W.heap.size⟩ W nowhere xs args ∧ Maps Try.prog 3 xs (.v (.bool true)) := by
  have hp : Try.f3.params = #[3, 22, 3, 23] := rfl
  rw [hp] at hA hval hsz
  obtain ⟨v0, vs0, d0, ds0, p0, q0, ha, rfl, _, h0, hA⟩ := trodAll_cons hA
  obtain ⟨v1, vs1, d1, ds1, p1, q1, rfl, rfl, _, h1, hA⟩ := trodAll_cons hA
  obtain ⟨v2, vs2, d2, ds2, p2, q2, rfl, rfl, _, h2, hA⟩ := trodAll_cons hA
  obtain ⟨v3, vs3, d3, ds3, p3, q3, rfl, rfl, _, h3, hA⟩ := trodAll_cons hA
  obtain ⟨rfl, rfl, _⟩ := trodAll_nil hA
  obtain rfl : args = #[v0, v1, v2, v3] := by cases args; simp_all
  have hwt : ∀ {j : Nat} {t : TypeId} {d : DataW H}, [3, 22, 3, 23][j]? = some t → [d0, d1, d2, d3][j]? = some d → ∀ n, n ∈ d.weights Try.prog t → n ≤ reachBytes := fun ht hd n hn => by
    have := List.all_eq_true.1 hsz n (DataW.weights_mem_each ht hd n hn)
    simpa using this
  obtain ⟨n, _, k0⟩ := arg_int u3 (hval 0 3 v0 rfl rfl) h0
  obtain ⟨es, hes, hei, k1⟩ := arg_slice u22 (by rw [c3]; decide) (by rw [b3]; decide) (opens_int u3) (hval 1 22 v1 rfl rfl) h1 (hwt (j := 1) rfl rfl)
  obtain ⟨x, _, k2⟩ := arg_int u3 (hval 2 3 v2 rfl rfl) h2
  obtain ⟨fs, hfs, hfd, k3⟩ := arg_slice u23 (by rw [c37]; decide) (by rw [b37]; decide) opens_dot (hval 3 23 v3 rfl rfl) h3 (hwt (j := 3) rfl rfl)
  obtain ⟨c, rfl⟩ := ints_of hei
  obtain ⟨l, rfl⟩ := dots_of hfd
  have hml : reachBytes ≤ 4611686018427387904 := by decide
  refine ⟨rfl, _, ⟨rfl, fun i d u e1 e2 => ?_⟩, m_LeavesWords hh n c x l (by simp at hes; omega) (by simp at hfs; omega)⟩
  match i, e1, e2 with
  | 0, e1, e2 => cases e1; cases e2; exact k0 _ fun _ h => h
  | 1, e1, e2 => cases e1; cases e2; exact k1 _ fun _ h => h
  | 2, e1, e2 => cases e1; cases e2; exact k2 _ fun _ h => h
  | 3, e1, e2 => cases e1; cases e2; exact k3 _ fun _ h => h

theorem words_holds (hh : Maps Try.prog 7 [] (wB true)) : Ytmbbepdbjeciaaa.Rows.LeavesWordsSaid :=
  OpenClaim.holds_of_wide 3 Try.f3 rfl rfl rfl rfl rfl rfl rfl ⟨rfl, rfl, rfl, rfl, rfl⟩ rfl rfl rfl rfl rfl (by kernel_rfl) Try.func3 (by kernel_rfl)
    (of_decide_eq_true (by kernel_rfl)) (by unfold Func.isWrapper; rw [if_neg (of_decide_eq_false (by kernel_rfl))]; exact ⟨rfl, rfl⟩)
    (fun os started H enc _ => by
      refine returnsInHanded_of_change_sized (C := Try.checked) (s := Ytmbbepdbjeciaaa.Rows.leavesWordsSpec) (conds := Ytmbbepdbjeciaaa.Rows.leavesWordsRow.domain) (apart := false) p_own started (by kernel_rfl) Try.func3
        (ChangeSpec.witness6 (enc := enc) (C := Try.checked) false ⟨#[], #[.int .i64 0, .slice none 0 0, .int .i64 0, .slice none 0 0], []⟩ 8 (by kernel_rfl) (by kernel_rfl) (by kernel_rfl) (by kernel_rfl)) ?_
      intro W base args ds gs before hval hW _ hsz _
      obtain ⟨p, q, hA, hV, _⟩ := id hW
      have hgs : gs = [] := by
        cases gs with
        | nil => rfl
        | cons => exact hV.elim
      subst hgs
      obtain ⟨hl, xs, hx, hm⟩ := words_law hh hval hA (by rw [List.append_nil] at hsz; exact hsz)
      refine law_true (tb := 4) p_laid (fun t ht => ?_) rfl u4 rfl hW (fun gs hg => ?_) hx hm
      · have hp : Try.f3.params.toList = [3, 22, 3, 23] := rfl
        rw [hp] at ht
        simp only [List.mem_cons, List.not_mem_nil, or_false] at ht
        rcases ht with rfl | rfl | rfl | rfl <;> exact ⟨by kernel_rfl, of_decide_eq_true (by kernel_rfl)⟩
      · subst hg
        match ds, hl with
        | [d1, d2, d3, d4], _ => rfl)
end Go.DL
