/- The reference's polynomial from points with few faults. -/
import Derived.Test.YtmbbepdbjeciaaaGreatYh
import Derived.Test.YtmbbepdbjeciaaaGreatE12
import Derived.Test.YtmbbepdbjeciaaaGreatZm
set_option linter.all false
set_option maxRecDepth 100000
set_option maxHeartbeats 16000000
namespace Go.DL
open Go.Proofs Go

/-- An append of whatever elements. -/
theorem f_appE {P : Program} {H : List Blk} {s n : Nat} {al : AL} {tx : TypeId} {x y : Operand} {α : Type} {f : α → List D} {te : TypeId} {m mm c b1 sz by' : Nat} {es : List (List D)} {o v : List α} {d' : D} (hx : evA n al x = .ms b1 0 m c) (hy : evA n al y = d') (hb1 : H[b1]? = some (.live sz es)) (hes : es.take m = o.map f) (hle : m ≤ es.length) (hv : elemsD H d' = some (v.map f)) (hm : m = o.length)
    (hmm : o.length + v.length = mm) (he : elemT P tx = some (te, sz)) (h0 : 0 < sz) (hz : (zeroD P te).map List.length = some sz) (hby : P.bytesOf te = by') (hf : ∀ a, (f a).length = sz ∧ (f a).all isCell = true) (hl : (o.length + v.length) * by' ≤ 140737488355328) (hl2 : o.length + v.length ≤ 9223372036854775807) :
    Ap P H s n al (.call { callee := .builtin .append, args := #[x, y], argTypes := #[tx, tx] }) mm (some b1) (.live sz ((o ++ v).map f)) := by
  subst hm; subst hmm
  have hu : P.underlying tx = some (.slice te) := by
    unfold elemT at he
    split at he
    · rename_i e hu; simp only [Option.map_eq_some_iff] at he; obtain ⟨_, _, h⟩ := he; cases h; exact hu
    · cases he
  refine f_app hx hy ?_ (by simp)
  have e1 : elemsD H (.ms b1 0 o.length c) = some (o.map f) := by
    simp only [elemsD, hb1, Nat.zero_add, hle, if_true, List.drop_zero, hes]
  have e3 : ∀ l : List α, (l.map f).all (fun e => e.length == sz) = true := fun l => List.all_eq_true.2 fun e he => by
    obtain ⟨a, _, rfl⟩ := List.mem_map.1 he
    simpa using (hf a).1
  have e4 : (v.map f).all (fun e => e.all isCell) = true := List.all_eq_true.2 fun e he => by
    obtain ⟨a, _, rfl⟩ := List.mem_map.1 he
    exact (hf a).2
  simp only [appendD, addedD, he, hu, e1, hv]
  rw [if_pos]
  · simp only [hb1, Blk.hasSz]; simp
  · refine ⟨h0, hz, e3 o, e3 v, e4, ?_, ?_⟩
    · rw [hby, List.length_map, List.length_map]; exact hl
    · rw [List.length_map, List.length_map]; exact hl2
/-- The rows, and a row that is being laid. -/
structure QW (H : List Blk) (b n : Nat) (ps : List Nat) (M : List (List Int)) (q : Nat) (row : List Int) : Prop where
  rw : RW H b n ps M
  at_ : H[q]? = some (.live 1 (row.map eI))
  qb : q ≠ b
  qr : ∀ i, i < ps.length → ps.getD i 0 ≠ q
section
variable {H : List Blk} {b n q : Nat} {ps : List Nat} {M : List (List Int)} {row : List Int}
theorem QW.start (h : RW H b n ps M) (r : List Int) : QW (H ++ [.live 1 (r.map eI)]) b n ps M H.length r := by
  obtain ⟨h1, h2⟩ := h.lt
  exact ⟨h.app _, blk_at (t := 0) rfl rfl, by omega, fun i hi => by have := h2 i hi; omega⟩
theorem QW.app (h : QW H b n ps M q row) (T : List Blk) : QW (H ++ T) b n ps M q row := ⟨h.rw.app T, blk_app T h.at_, h.qb, h.qr⟩
theorem QW.set (h : QW H b n ps M q row) (r : List Int) : QW (H.set q (.live 1 (r.map eI))) b n ps M q r := ⟨h.rw.other h.qb h.qr _, List.getElem?_set_self (blk_lt h.at_), h.qb, h.qr⟩
theorem QW.done (h : QW H b n ps M q row) {x : Blk} : RW (H.set b .dead ++ [x, .live 1 ((ps ++ [q]).map fun p => [.ms p 0 (n + 1) (n + 1)])]) (H.length + 1) n (ps ++ [q]) (M ++ [row]) := by
  obtain ⟨h1, h2⟩ := h.rw.lt
  have h3 := blk_lt h.at_
  have hl : (H.set b Blk.dead).length = H.length := by simp
  have hL := h.rw.len
  have hp : (ps ++ [q]).length = ps.length + 1 := by simp
  refine ⟨blk_at (t := 1) hl rfl, fun i hi => ?_, fun i hi => ?_, fun i j hi hj he => ?_, by simp [hL]⟩
  · rw [hp] at hi
    rw [getD_snocL _ _ _ _ hi, getD_snocL _ _ _ _ (by omega), hL]
    split
    · rename_i hlt
      exact blk_app _ (blk_ne (h.rw.row i hlt) fun e => h.rw.ne i hlt e.symm)
    · exact blk_app _ (blk_ne h.at_ (Ne.symm h.qb))
  · rw [hp] at hi
    rw [getD_snocL _ _ _ _ hi]
    split
    · rename_i hlt; have := h2 i hlt; omega
    · omega
  · rw [hp] at hi hj
    rw [getD_snocL _ _ _ _ hi, getD_snocL _ _ _ _ hj] at he
    split at he <;> split at he
    · rename_i a1 a2; exact h.rw.nd i j a1 a2 he
    · rename_i a1 a2; exact absurd he (h.qr i a1)
    · rename_i a1 a2; exact absurd he.symm (h.qr j a2)
    · omega
end
end Go.DL
