/- LeavesWhole, the row. -/
import Derived.Test.YtmbbepdbjeciaaaGreatRows
import Derived.Test.YtmbbepdbjeciaaaGreatYc
import Derived.Test.YtmbbepdbjeciaaaGreatZh
import Derived.Test.YtmbbepdbjeciaaaGreatE11
set_option linter.all false
set_option maxRecDepth 100000
namespace Go.DL
open Go.Proofs Go Go.RowKit Go.ChangeShapes Go.WideShapes

theorem lists_of {α : Type} {Q : α → Prop} {g : α → List D} : ∀ {es : List (List D)}, (∀ e, e ∈ es → ∃ a, Q a ∧ e = g a) → ∃ l : List α, (∀ a, a ∈ l → Q a) ∧ es = l.map g
  | [], _ => ⟨[], fun a h => (by cases h), rfl⟩
  | e :: es, h => by
    obtain ⟨a, ha, rfl⟩ := h e (List.mem_cons_self ..)
    obtain ⟨l, hl, rfl⟩ := lists_of fun e he => h e (List.mem_cons_of_mem _ he)
    refine ⟨a :: l, fun b hb => ?_, rfl⟩
    rcases List.mem_cons.1 hb with e | e
    · rw [e]; exact ha
    · exact hl b e
theorem ints_of {es : List (List D)} (h : ∀ e, e ∈ es → Rint .i64 e) : ∃ l : List Int, es = l.map eI := by
  obtain ⟨l, _, h⟩ := lists_of (Q := fun _ : Int => True) (g := eI) fun e he => by obtain ⟨n, _, rfl⟩ := h e he; exact ⟨n, trivial, rfl⟩
  exact ⟨l, h⟩
def short (l : List Int) : Prop := l.length ≤ 4611686018427387904
theorem reach_short : reachBytes ≤ 4611686018427387904 := by decide
theorem rows_of {es : List (List D)} (h : ∀ e, e ∈ es → Rsl (Rint .i64) e) : ∃ d : List (List Int), (∀ r, r ∈ d → short r) ∧ es = d.map eRow :=
  lists_of fun e he => by
    obtain ⟨fs, h1, h2, rfl⟩ := h e he
    obtain ⟨l, rfl⟩ := ints_of h2
    exact ⟨l, Nat.le_trans (by simpa using h1) reach_short, rfl⟩
theorem leaves_of {es : List (List D)} (h : ∀ e, e ∈ es → Rcat [Rint .i64, Rsl (Rint .i64)] e) : ∃ l : List Leaf, (∀ x, x ∈ l → short x.Words) ∧ es = l.map eLeaf :=
  lists_of fun e he => by
    obtain ⟨_, _, rfl, ⟨a, _, rfl⟩, _, _, rfl, ⟨fs, h1, h2, rfl⟩, rfl⟩ := h e he
    obtain ⟨l, rfl⟩ := ints_of h2
    exact ⟨⟨a, l⟩, Nat.le_trans (by simpa using h1) reach_short, rfl⟩
theorem p_laid : laidOutB Tryz.prog = true := by kernel_rfl
theorem p_own : ownKnob Tryz.prog.godebug = none := by kernel_rfl
theorem u3 : Tryz.prog.underlying 3 = some (.int .i64) := by kernel_rfl
theorem u4 : Tryz.prog.underlying 4 = some .bool := by kernel_rfl
theorem u24 : Tryz.prog.underlying 24 = some (.slice 80) := by kernel_rfl
theorem u25 : Tryz.prog.underlying 25 = some (.slice 40) := by kernel_rfl
theorem u40 : Tryz.prog.underlying 40 = some (.slice 3) := by kernel_rfl
theorem c3 : Tryz.prog.cellsOf 3 = 1 := by kernel_rfl
theorem c23 : Tryz.prog.cellsOf 23 = 3 := by kernel_rfl
theorem c40 : Tryz.prog.cellsOf 40 = 1 := by kernel_rfl
theorem c80 : Tryz.prog.cellsOf 80 = 2 := by kernel_rfl
theorem b3 : Tryz.prog.bytesOf 3 = 8 := by kernel_rfl
theorem b40 : Tryz.prog.bytesOf 40 = 24 := by kernel_rfl
theorem b80 : Tryz.prog.bytesOf 80 = 32 := by kernel_rfl

section
variable {H : Type} {enc : TypeId × Value → H} {w : World}
theorem opens_ints : Opens enc Tryz.prog w 40 (Rsl (Rint .i64)) := opens_slice u40 (by rw [c3]; decide) (by rw [b3]; decide) (opens_int u3)
theorem opens_leaf : Opens enc Tryz.prog w 80 (Rcat [Rint .i64, Rsl (Rint .i64)]) := by
  refine opens_struct Tryz.underlying80 ⟨rfl, ?_, opens_int u3, ?_, ?_, opens_ints, ?_⟩
  · show 0 + Tryz.prog.cellsOf 3 ≤ _
    rw [c3, c80]; decide
  · show 1 = 0 + Tryz.prog.cellsOf 3
    rw [c3]
  · show 0 + Tryz.prog.cellsOf 3 + Tryz.prog.cellsOf 40 ≤ _
    rw [c3, c40, c80]; decide
  · show 0 + Tryz.prog.cellsOf 3 + Tryz.prog.cellsOf 40 = _
    rw [c3, c40, c80]
theorem shape_fields : OpensF enc Tryz.prog w #[⟨ "Data", 3, 0, false, "", "", 0⟩, ⟨ "Checks", 3, 1, false, "", "", 8⟩, ⟨ "Width", 3, 2, false, "", "", 16⟩].toList [Rint .i64, Rint .i64, Rint .i64] 0 (Tryz.prog.cellsOf 23) := by
  refine ⟨rfl, ?_, opens_int u3, ?_, ?_, opens_int u3, ?_, ?_, opens_int u3, ?_⟩
  · show 0 + Tryz.prog.cellsOf 3 ≤ _
    rw [c3, c23]; decide
  · show 1 = 0 + Tryz.prog.cellsOf 3
    rw [c3]
  · show 0 + Tryz.prog.cellsOf 3 + Tryz.prog.cellsOf 3 ≤ _
    rw [c3, c23]; decide
  · show 2 = 0 + Tryz.prog.cellsOf 3 + Tryz.prog.cellsOf 3
    rw [c3]
  · show 0 + Tryz.prog.cellsOf 3 + Tryz.prog.cellsOf 3 + Tryz.prog.cellsOf 3 ≤ _
    rw [c3, c23]; decide
  · show 0 + Tryz.prog.cellsOf 3 + Tryz.prog.cellsOf 3 + Tryz.prog.cellsOf 3 = _
    rw [c3, c23]
end
theorem shape_of {ds : List D} (h : Rcat [Rint .i64, Rint .i64, Rint .i64] ds) : ∃ s : Shape, ds = eShape s := by
  obtain ⟨_, _, rfl, ⟨a, _, rfl⟩, _, _, rfl, ⟨b, _, rfl⟩, _, _, rfl, ⟨c, _, rfl⟩, rfl⟩ := h
  exact ⟨⟨a, b, c⟩, rfl⟩

end Go.DL
