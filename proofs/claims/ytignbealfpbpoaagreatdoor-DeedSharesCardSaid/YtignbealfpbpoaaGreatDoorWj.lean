/- strings.Join, out of the library's contract. -/
import Derived.Test.YtignbealfpbpoaaGreatDoorWb
import Derived.Shelf.Strings.OnBuilder
import Derived.Ground.NamesProg
set_option linter.all false
set_option maxRecDepth 100000
namespace Go.Proofs
open Go.Shelf
def Tryz.laysJoin_ren : Go.Shelf.Ren := ⟨fun | 156 => 137 | 165 => 191 | 166 => 68 | 169 => 70 | 240 => 134 | 241 => 223 | 276 => 187 | 277 => 257 | n => n, fun | 31 => 84 | 9 => 9 | 3 => 3 | 4 => 4 | 0 => 0 | 20 => 20 | 72 => 118 | 76 => 121 | 70 => 115 | 37 => 116 | 75 => 120 | 127 => 207 | 164 => 240 | 5 => 5 | 80 => 112 | n => n, fun | n => n⟩
theorem Tryz.laysJoin : Go.Proofs.Lays.n156 Tryz.prog Tryz.laysJoin_ren := {
  mixed := by kernel_rfl
  f156 := Tryz.func137.trans (congrArg some (by kernel_rfl))
  f165 := Tryz.func191.trans (congrArg some (by kernel_rfl))
  f166 := Tryz.func68.trans (congrArg some (by kernel_rfl))
  f169 := Tryz.func70.trans (congrArg some (by kernel_rfl))
  f240 := Tryz.func134.trans (congrArg some (by kernel_rfl))
  f241 := Tryz.func223.trans (congrArg some (by kernel_rfl))
  f276 := Tryz.func187.trans (congrArg some (by kernel_rfl))
  f277 := Tryz.func257.trans (congrArg some (by kernel_rfl))
  t0 := Tryz.underlying0
  a0 := Tryz.isAgg0
  z0 := Tryz.sizeOf0
  v0 := Tryz.zeroValue0
  t3 := Tryz.underlying3
  a3 := Tryz.isAgg3
  z3 := Tryz.sizeOf3
  v3 := Tryz.zeroValue3
  t4 := Tryz.underlying4
  a4 := Tryz.isAgg4
  z4 := Tryz.sizeOf4
  v4 := Tryz.zeroValue4
  t9 := Tryz.underlying9
  a9 := Tryz.isAgg9
  z9 := Tryz.sizeOf9
  v9 := Tryz.zeroValue9
  t20 := Tryz.underlying20
  a20 := Tryz.isAgg20
  z20 := Tryz.sizeOf20
  v20 := Tryz.zeroValue20
  t31 := Tryz.underlying84
  a31 := Tryz.isAgg84
  z31 := Tryz.sizeOf84
  v31 := Tryz.zeroValue84
  t37 := Tryz.underlying116
  a37 := Tryz.isAgg116
  z37 := Tryz.sizeOf116
  v37 := Tryz.zeroValue116
  t70 := Tryz.underlying115
  a70 := Tryz.isAgg115
  z70 := Tryz.sizeOf115
  v70 := Tryz.zeroValue115
  t72 := Tryz.underlying118
  a72 := Tryz.isAgg118
  z72 := Tryz.sizeOf118
  v72 := Tryz.zeroValue118
  t75 := Tryz.underlying120
  a75 := Tryz.isAgg120
  z75 := Tryz.sizeOf120
  v75 := Tryz.zeroValue120
  t76 := Tryz.underlying121
  a76 := Tryz.isAgg121
  z76 := Tryz.sizeOf121
  v76 := Tryz.zeroValue121
  t127 := Tryz.underlying207
  a127 := Tryz.isAgg207
  z127 := Tryz.sizeOf207
  v127 := Tryz.zeroValue207
  t164 := Tryz.underlying240
  a164 := Tryz.isAgg240
  z164 := Tryz.sizeOf240
  v164 := Tryz.zeroValue240 }
end Go.Proofs
namespace Go.DL
open Go.Proofs Go Go.RowKit

theorem extraJ : Builder.Extra Tryz.prog Tryz.laysJoin_ren where
  sizeBuilder := by kernel_rfl
  liesBuilder := by kernel_rfl
  t5 := by kernel_rfl
  a5 := fun w => run_isAgg (P := Tryz.prog) (t := Tryz.laysJoin_ren.t 5) (b := false) (by kernel_rfl) w
  z5 := fun w => run_sizeOf (P := Tryz.prog) (t := Tryz.laysJoin_ren.t 5) (by kernel_rfl) w
  v5 := fun w => by
    have h : (Tryz.prog.info? (Tryz.laysJoin_ren.t 5)).map (fun i => i.zero) = some (some (.int .u8 0)) := by kernel_rfl
    cases hi : Tryz.prog.info? (Tryz.laysJoin_ren.t 5) with
    | none => rw [hi] at h; cases h
    | some i =>
      rw [hi] at h
      simp only [Option.map_some, Option.some.injEq] at h
      simp [zeroValue, typeInfo, hi, h]
  infoByte := by kernel_rfl
  cellsByte := by kernel_rfl
  sizeByte := by kernel_rfl
  neB5 := by decide

/-- A contract of the library that leaves all below the heap's end as it was. -/
theorem Maps.ofBelow {P : Program} {f : FuncId} {args : List D} {x : Value} (he : Enters P f)
    (h : ∀ (w : World) (A : Nat → Prop) (vs : Array Value), (∀ n, A n → n < w.heap.size) → Laid A w → VS ⟨A, w.heap.size⟩ w nowhere args vs → Calls P f vs w fun e w' => e = .returned x ∧ Below w.heap.size w w') : Maps P f args (.v x) :=
  ⟨he, fun w A vs hA hla hv => callsIn_wide.2 ((h w A vs hA hla hv).mono fun e w' ⟨h1, h2⟩ =>
    ⟨x, A, h1, .v _ _, fun _ h => h, fun _ h => .inl h, fun m hm => Nat.lt_of_lt_of_le (hA m hm) h2.size, ⟨h2.os, h2.tape, h2.output, h2.size, fun n hn _ => h2.block n hn, fun n hn => hn.elim⟩⟩)⟩

theorem m_Join (xs : List ByteArray) (sep : ByteArray) (hN : xs.length ≤ 140737488355328) (hlen : (Lib.join (xs.map (·.data.toList)) sep.data.toList).length ≤ 140737488355328) :
    Maps Tryz.prog 137 [.sl (xs.map fun x => [.v (.string x)]), .v (.string sep)] (.v (.string ⟨(Lib.join (xs.map (·.data.toList)) sep.data.toList).toArray⟩)) := by
  refine Maps.ofBelow (enters_of Tryz.func137 rfl rfl) fun w A vs hA hla hv => ?_
  obtain ⟨u, y, rfl⟩ : ∃ u y, vs = #[u, y] := by
    have := hv.size
    match vs, this with
    | ⟨[u, y]⟩, _ => exact ⟨u, y, rfl⟩
  have h0 := hv.val 0 _ u rfl rfl
  have h1 := (hv.val 1 _ y rfl rfl).v_inv
  subst h1
  generalize hes : (xs.map fun x => [D.v (.string x)]) = es at h0
  cases h0 with
  | sl0 _ a cap =>
    have : xs = [] := by simpa using hes
    subst this
    exact (Any.strings_Join_none Tryz.laysJoin extraJ a cap sep w).mono fun e w' ⟨h1, h2⟩ => ⟨h1, h2 ▸ Below.refl _ _⟩
  | sl _ _ n off sz cap v ha hcap hsz hc hh =>
    subst hes
    have hj := Any.strings_Join Tryz.laysJoin extraJ n off cap xs sep w (fun j x hx => by
      have hg : (xs.map fun x => [D.v (.string x)])[j]? = some [.v (.string x)] := by simp [hx]
      have hs := hsz j _ hg
      have h2 := hc j _ 0 _ hg rfl
      have h3 := (hh j _ 0 _ hg rfl).v_inv
      rw [h3] at h2
      simp only [List.length_cons, List.length_nil] at hs
      rw [← hs] at h2
      simpa using h2) (hA n ha) hN (by simpa using hcap) hlen
    rw [List.length_map]
    exact hj
end Go.DL
