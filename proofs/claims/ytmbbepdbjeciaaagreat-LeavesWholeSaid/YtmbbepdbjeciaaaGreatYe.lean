/- LeavesWhole, the row. -/
import Derived.Test.YtmbbepdbjeciaaaGreatRows
import Derived.Test.YtmbbepdbjeciaaaGreatYd
import Derived.Test.YtmbbepdbjeciaaaGreatDl29
set_option linter.all false
set_option maxRecDepth 100000
namespace Go.DL
open Go.Proofs Go Go.RowKit Go.ChangeShapes Go.WideShapes

theorem lists_of {α : Type} {Q : α → Prop} {g : α → List D} : ∀ {es : List (List D)}, (∀ e, e ∈ es → ∃ a, Q a ∧ e = g a) → ∃ l : List α, (∀ a, a ∈ l → Q a) ∧ es = l.map g
  | [], _ => ⟨[], fun a h => (by cases h), rfl⟩
  | e :: es, h => by
    obtain ⟨a, ha, rfl⟩ := h e (List.mem_cons_self ..)
    obtain ⟨l, hl, rfl⟩ := lists_of fun e he => h e (List.mem_cons_of_mem _ he)
    refine ⟨a :: l, fun b hb => ?_, rfl⟩
    rcases List.mem_cons.1 hb with e | e
    · rw [e]; exact ha
    · exact hl b e
theorem ints_of {es : List (List D)} (h : ∀ e, e ∈ es → Rint .i64 e) : ∃ l : List Int, es = l.map eI := by
  obtain ⟨l, _, h⟩ := lists_of (Q := fun _ : Int => True) (g := eI) fun e he => by obtain ⟨n, _, rfl⟩ := h e he; exact ⟨n, trivial, rfl⟩
  exact ⟨l, h⟩
def short (l : List Int) : Prop := l.length ≤ 4611686018427387904
theorem reach_short : reachBytes ≤ 4611686018427387904 := by decide
theorem rows_of {es : List (List D)} (h : ∀ e, e ∈ es → Rsl (Rint .i64) e) : ∃ d : List (List Int), (∀ r, r ∈ d → short r) ∧ es = d.map eRow :=
  lists_of fun e he => by
    obtain ⟨fs, h1, h2, rfl⟩ := h e he
    obtain ⟨l, rfl⟩ := ints_of h2
    exact ⟨l, Nat.le_trans (by simpa using h1) reach_short, rfl⟩
theorem leaves_of {es : List (List D)} (h : ∀ e, e ∈ es → Rcat [Rint .i64, Rsl (Rint .i64)] e) : ∃ l : List Leaf, (∀ x, x ∈ l → short x.Words) ∧ es = l.map eLeaf :=
  lists_of fun e he => by
    obtain ⟨_, _, rfl, ⟨a, _, rfl⟩, _, _, rfl, ⟨fs, h1, h2, rfl⟩, rfl⟩ := h e he
    obtain ⟨l, rfl⟩ := ints_of h2
    exact ⟨⟨a, l⟩, Nat.le_trans (by simpa using h1) reach_short, rfl⟩
theorem p_laid : laidOutB Tryz.prog = true := by kernel_rfl
theorem p_own : ownKnob Tryz.prog.godebug = none := by kernel_rfl
theorem u3 : Tryz.prog.underlying 3 = some (.int .i64) := by kernel_rfl
theorem u4 : Tryz.prog.underlying 4 = some .bool := by kernel_rfl
theorem u24 : Tryz.prog.underlying 24 = some (.slice 80) := by kernel_rfl
theorem u25 : Tryz.prog.underlying 25 = some (.slice 40) := by kernel_rfl
theorem u40 : Tryz.prog.underlying 40 = some (.slice 3) := by kernel_rfl
theorem c3 : Tryz.prog.cellsOf 3 = 1 := by kernel_rfl
theorem c23 : Tryz.prog.cellsOf 23 = 3 := by kernel_rfl
theorem c40 : Tryz.prog.cellsOf 40 = 1 := by kernel_rfl
theorem c80 : Tryz.prog.cellsOf 80 = 2 := by kernel_rfl
theorem b3 : Tryz.prog.bytesOf 3 = 8 := by kernel_rfl
theorem b40 : Tryz.prog.bytesOf 40 = 24 := by kernel_rfl
theorem b80 : Tryz.prog.bytesOf 80 = 32 := by kernel_rfl

section
variable {H : Type} {enc : TypeId × Value → H} {w : World}
theorem opens_ints : Opens enc Tryz.prog w 40 (Rsl (Rint .i64)) := opens_slice u40 (by rw [c3]; decide) (by rw [b3]; decide) (opens_int u3)
theorem opens_leaf : Opens enc Tryz.prog w 80 (Rcat [Rint .i64, Rsl (Rint .i64)]) := by
  refine opens_struct Tryz.underlying80 ⟨rfl, ?_, opens_int u3, ?_, ?_, opens_ints, ?_⟩
  · show 0 + Tryz.prog.cellsOf 3 ≤ _
    rw [c3, c80]; decide
  · show 1 = 0 + Tryz.prog.cellsOf 3
    rw [c3]
  · show 0 + Tryz.prog.cellsOf 3 + Tryz.prog.cellsOf 40 ≤ _
    rw [c3, c40, c80]; decide
  · show 0 + Tryz.prog.cellsOf 3 + Tryz.prog.cellsOf 40 = _
    rw [c3, c40, c80]
theorem shape_fields : OpensF enc Tryz.prog w #[⟨ "Data", 3, 0, false, "", "", 0⟩, ⟨ "Checks", 3, 1, false, "", "", 8⟩, ⟨ "Width", 3, 2, false, "", "", 16⟩].toList [Rint .i64, Rint .i64, Rint .i64] 0 (Tryz.prog.cellsOf 23) := by
  refine ⟨rfl, ?_, opens_int u3, ?_, ?_, opens_int u3, ?_, ?_, opens_int u3, ?_⟩
  · show 0 + Tryz.prog.cellsOf 3 ≤ _
    rw [c3, c23]; decide
  · show 1 = 0 + Tryz.prog.cellsOf 3
    rw [c3]
  · show 0 + Tryz.prog.cellsOf 3 + Tryz.prog.cellsOf 3 ≤ _
    rw [c3, c23]; decide
  · show 2 = 0 + Tryz.prog.cellsOf 3 + Tryz.prog.cellsOf 3
    rw [c3]
  · show 0 + Tryz.prog.cellsOf 3 + Tryz.prog.cellsOf 3 + Tryz.prog.cellsOf 3 ≤ _
    rw [c3, c23]; decide
  · show 0 + Tryz.prog.cellsOf 3 + Tryz.prog.cellsOf 3 + Tryz.prog.cellsOf 3 = _
    rw [c3, c23]
end
theorem shape_of {ds : List D} (h : Rcat [Rint .i64, Rint .i64, Rint .i64] ds) : ∃ s : Shape, ds = eShape s := by
  obtain ⟨_, _, rfl, ⟨a, _, rfl⟩, _, _, rfl, ⟨b, _, rfl⟩, _, _, rfl, ⟨c, _, rfl⟩, rfl⟩ := h
  exact ⟨⟨a, b, c⟩, rfl⟩

theorem whole_law (hh : Maps Tryz.prog 14 [] (wB true)) {H : Type} {enc : TypeId × Value → H} {W : World} {args : Array Value} {ds : List (DataW H)} {p : List MemPlace} {base : Nat}
    (hval : ∀ (j : Nat) t v, Tryz.f3.params[j]? = some t → args[j]? = some v → Value.okWide Tryz.prog W .any base t v) (hA : DataW.TrodAll enc Tryz.prog W 0 (fun _ => true) true Tryz.f3.params.toList args.toList ds p)
    (hsz : (DataW.weightsEach Tryz.prog Tryz.f3.params.toList ds).all (· ≤ reachBytes) = true) : ds.length = 3 ∧ ∃ xs, VS ⟨fun n => n < W.heap.size, W.heap.size⟩ W nowhere xs args ∧ Maps Tryz.prog 3 xs (.v (.bool true)) := by
  have hp : Tryz.f3.params = #[23, 24, 25] := rfl
  rw [hp] at hA hval hsz
  obtain ⟨v0, vs0, d0, ds0, p0, q0, ha, rfl, _, h0, hA⟩ := trodAll_cons hA
  obtain ⟨v1, vs1, d1, ds1, p1, q1, rfl, rfl, _, h1, hA⟩ := trodAll_cons hA
  obtain ⟨v2, vs2, d2, ds2, p2, q2, rfl, rfl, _, h2, hA⟩ := trodAll_cons hA
  obtain ⟨rfl, rfl, _⟩ := trodAll_nil hA
  obtain rfl : args = #[v0, v1, v2] := by cases args; simp_all
  have hwt : ∀ {j : Nat} {t : TypeId} {d : DataW H}, [23, 24, 25][j]? = some t → [d0, d1, d2][j]? = some d → ∀ n, n ∈ d.weights Tryz.prog t → n ≤ reachBytes := fun ht hd n hn => by
    have := List.all_eq_true.1 hsz n (DataW.weights_mem_each ht hd n hn)
    simpa using this
  obtain ⟨cs, hcs, k0⟩ := arg_struct Tryz.underlying23 shape_fields (hval 0 23 v0 rfl rfl) h0 (hwt (j := 0) rfl rfl)
  obtain ⟨es, hes, hei, k1⟩ := arg_slice u24 (by rw [c80]; decide) (by rw [b80]; decide) opens_leaf (hval 1 24 v1 rfl rfl) h1 (hwt (j := 1) rfl rfl)
  obtain ⟨fs, hfs, hfd, k2⟩ := arg_slice u25 (by rw [c40]; decide) (by rw [b40]; decide) opens_ints (hval 2 25 v2 rfl rfl) h2 (hwt (j := 2) rfl rfl)
  obtain ⟨s, rfl⟩ := shape_of hcs
  obtain ⟨l, hlw, rfl⟩ := leaves_of hei
  obtain ⟨d, hdw, rfl⟩ := rows_of hfd
  have hr := reach_short
  refine ⟨rfl, _, ⟨rfl, fun i x u e1 e2 => ?_⟩, m_LeavesWhole hh s l d (by simp at hes; omega) hlw (by simp at hfs; omega) hdw⟩
  match i, e1, e2 with
  | 0, e1, e2 => cases e1; cases e2; exact k0 _ fun _ h => h
  | 1, e1, e2 => cases e1; cases e2; exact k1 _ fun _ h => h
  | 2, e1, e2 => cases e1; cases e2; exact k2 _ fun _ h => h

theorem whole_holds (hh : Maps Tryz.prog 14 [] (wB true)) : YtmbbepdbjeciaaaGreat.Rows.LeavesWholeSaid :=
  OpenClaim.holds_of_wide 3 Tryz.f3 rfl rfl rfl rfl rfl rfl rfl ⟨rfl, rfl, rfl, rfl, rfl⟩ rfl rfl rfl rfl rfl (by kernel_rfl) Tryz.func3 (by kernel_rfl)
    (of_decide_eq_true (by kernel_rfl)) (by unfold Func.isWrapper; rw [if_neg (of_decide_eq_false (by kernel_rfl))]; exact ⟨rfl, rfl⟩)
    (fun os started H enc _ => by
      refine returnsInHanded_of_change_sized (C := Tryz.checked) (s := YtmbbepdbjeciaaaGreat.Rows.leavesWholeSpec) (conds := YtmbbepdbjeciaaaGreat.Rows.leavesWholeRow.domain) (apart := false) p_own started (by kernel_rfl) Tryz.func3
        (ChangeSpec.witness6 (enc := enc) (C := Tryz.checked) false ⟨#[], #[.agg #[.int .i64 0, .int .i64 0, .int .i64 0], .slice none 0 0, .slice none 0 0], []⟩ 8 (by kernel_rfl) (by kernel_rfl) (by kernel_rfl) (by kernel_rfl)) ?_
      intro W base args ds gs before hval hW _ hsz _
      obtain ⟨p, q, hA, hV, _⟩ := id hW
      have hgs : gs = [] := by
        cases gs with
        | nil => rfl
        | cons => exact hV.elim
      subst hgs
      obtain ⟨hl, xs, hx, hm⟩ := whole_law hh hval hA (by rw [List.append_nil] at hsz; exact hsz)
      refine law_true (tb := 4) p_laid (fun t ht => ?_) rfl u4 rfl hW (fun gs hg => ?_) hx hm
      · have hp : Tryz.f3.params.toList = [23, 24, 25] := rfl
        rw [hp] at ht
        simp only [List.mem_cons, List.not_mem_nil, or_false] at ht
        rcases ht with rfl | rfl | rfl <;> exact ⟨by kernel_rfl, of_decide_eq_true (by kernel_rfl)⟩
      · subst hg
        match ds, hl with
        | [d1, d2, d3], _ => rfl)
end Go.DL
