/- The rows of the equations, while they are laid. -/
import Derived.Test.YtmbbepdbjeciaaaGreatZo1
import Derived.Test.YtmbbepdbjeciaaaGreatE11
set_option linter.all false
set_option maxRecDepth 100000
namespace Go.DL
open Go.Proofs Go

structure RW (H : List Blk) (b n : Nat) (ps : List Nat) (M : List (List Int)) : Prop where
  rows : H[b]? = some (.live 1 (ps.map fun p => [.ms p 0 (n + 1) (n + 1)]))
  row : ∀ i, i < ps.length → H[ps.getD i 0]? = some (.live 1 ((M.getD i []).map eI))
  ne : ∀ i, i < ps.length → ps.getD i 0 ≠ b
  nd : ∀ i j, i < ps.length → j < ps.length → ps.getD i 0 = ps.getD j 0 → i = j
  len : M.length = ps.length
structure IW (H : List Blk) (b n : Nat) (ps : List Nat) (M : List (List Int)) (dt pw : Nat) (X Y : Int) (q : Nat) (row : List Int) : Prop where
  rw : RW H b n ps M
  dot : H[dt]? = some (.live 2 [[wI X, wI Y]])
  pow : H[pw]? = some (.live 1 [[wI X]])
  es : ∃ es, H[q]? = some (.live 1 es) ∧ es.take row.length = row.map eI ∧ row.length ≤ es.length
  qb : q ≠ b
  qd : q ≠ dt
  qp : q ≠ pw
  qr : ∀ i, i < ps.length → ps.getD i 0 ≠ q
section
variable {H T : List Blk} {b n dt pw q : Nat} {ps : List Nat} {M : List (List Int)} {X Y : Int} {row : List Int}
theorem blk_lt {i : Nat} {x : Blk} (h : H[i]? = some x) : i < H.length := (List.getElem?_eq_some_iff.1 h).1
theorem blk_app {i : Nat} {x : Blk} (T : List Blk) (h : H[i]? = some x) : (H ++ T)[i]? = some x := by
  rw [List.getElem?_append_left (blk_lt h)]; exact h
theorem blk_ne {i j : Nat} {x y : Blk} (h : H[i]? = some x) (hn : j ≠ i) : (H.set j y)[i]? = some x := by
  rw [List.getElem?_set_ne hn]; exact h
theorem blk_at {t : Nat} {x : Blk} {l : Nat} (hl : H.length = l) (h : T[t]? = some x) : (H ++ T)[l + t]? = some x := by
  subst hl
  rw [List.getElem?_append_right (by omega)]
  rw [show H.length + t - H.length = t by omega]; exact h
theorem RW.app (h : RW H b n ps M) (T : List Blk) : RW (H ++ T) b n ps M :=
  ⟨blk_app T h.rows, fun i hi => blk_app T (h.row i hi), h.ne, h.nd, h.len⟩
theorem RW.other (h : RW H b n ps M) (hb : q ≠ b) (hr : ∀ i, i < ps.length → ps.getD i 0 ≠ q) (x : Blk) : RW (H.set q x) b n ps M :=
  ⟨blk_ne h.rows hb, fun i hi => blk_ne (h.row i hi) fun e => hr i hi e.symm, h.ne, h.nd, h.len⟩
theorem RW.lt (h : RW H b n ps M) : b < H.length ∧ ∀ i, i < ps.length → ps.getD i 0 < H.length := ⟨blk_lt h.rows, fun i hi => blk_lt (h.row i hi)⟩
theorem RW.nil (h : H[b]? = some (.live 1 [])) : RW H b n [] [] :=
  ⟨h, fun i hi => absurd hi (Nat.not_lt_zero _), fun i hi => absurd hi (Nat.not_lt_zero _), fun i _ hi => absurd hi (Nat.not_lt_zero _), rfl⟩
theorem IW.start (h : RW H b n ps M) {es : List (List D)} : IW (H ++ [.live 2 [[wI X, wI Y]], .live 1 [[wI X]], .live 1 es]) b n ps M H.length (H.length + 1) X Y (H.length + 2) [] := by
  obtain ⟨h1, h2⟩ := h.lt
  exact ⟨h.app _, blk_at (t := 0) rfl rfl, blk_at (t := 1) rfl rfl, ⟨es, blk_at (t := 2) rfl rfl, by simp, Nat.zero_le _⟩, by omega, by omega, by omega, fun i hi => by have := h2 i hi; omega⟩
theorem IW.push (h : IW H b n ps M dt pw X Y q row) {v : Int} {t : Nat} (ht : T[t]? = some (.live 1 ((row ++ [v]).map eI))) : IW (H.set q .dead ++ T) b n ps M dt pw X Y (H.length + t) (row ++ [v]) := by
  obtain ⟨h1, h2⟩ := h.rw.lt
  have h3 := blk_lt h.dot
  have h4 := blk_lt h.pow
  exact ⟨(h.rw.other h.qb h.qr _).app _, blk_app _ (blk_ne h.dot h.qd), blk_app _ (blk_ne h.pow h.qp), ⟨_, blk_at (by simp) ht, by rw [List.take_of_length_le (by simp)], by simp⟩, by omega, by omega, by omega, fun i hi => by have := h2 i hi; omega⟩
theorem getD_snocL {α : Type} (l : List α) (x d : α) (i : Nat) (hi : i < l.length + 1) : (l ++ [x]).getD i d = if i < l.length then l.getD i d else x := by
  simp only [List.getD_eq_getElem?_getD]
  split
  · rename_i h; rw [List.getElem?_append_left h]
  · rename_i h; rw [show i = l.length by omega]; simp
theorem IW.done (h : IW H b n ps M dt pw X Y q row) {v : Int} {x y : Blk} : RW ((H.set q .dead).set b .dead ++ [x, .live 1 ((row ++ [v]).map eI), y, .live 1 ((ps ++ [H.length + 1]).map fun p => [.ms p 0 (n + 1) (n + 1)])]) (H.length + 3) n (ps ++ [H.length + 1]) (M ++ [row ++ [v]]) := by
  obtain ⟨h1, h2⟩ := h.rw.lt
  have hl : ((H.set q Blk.dead).set b Blk.dead).length = H.length := by simp
  have hL := h.rw.len
  have hp : (ps ++ [H.length + 1]).length = ps.length + 1 := by simp
  refine ⟨blk_at hl rfl, fun i hi => ?_, fun i hi => ?_, fun i j hi hj he => ?_, by simp [hL]⟩
  · rw [hp] at hi
    rw [getD_snocL _ _ _ _ hi, getD_snocL _ _ _ _ (by omega), hL]
    split
    · rename_i hlt
      exact blk_app _ (blk_ne (blk_ne (h.rw.row i hlt) fun e => h.qr i hlt e.symm) fun e => h.rw.ne i hlt e.symm)
    · exact blk_at (t := 1) hl rfl
  · rw [hp] at hi
    rw [getD_snocL _ _ _ _ hi]
    split
    · rename_i hlt; have := h2 i hlt; omega
    · omega
  · rw [hp] at hi hj
    rw [getD_snocL _ _ _ _ hi, getD_snocL _ _ _ _ hj] at he
    split at he <;> split at he
    · rename_i a1 a2; exact h.rw.nd i j a1 a2 he
    · rename_i a1 a2; have := h2 i a1; omega
    · rename_i a1 a2; have := h2 j a2; omega
    · omega
end
theorem snapP {lk : Nat → Option Blk} {p : Nat} {X : Int} {j : Nat} (h : lk p = some (.live 1 [[wI X]])) : [wI j, D.mp p 0 0].map (snap lk 5) = [wI j, .rp [wI X]] := by
  simp [snap, h]
theorem m_pw {X : Int} (hX : W X) (j : Nat) (hj : j ≤ 4611686018427387904) : Maps Tryz.prog 143 [wI j, .rp [wI X]] (wI (DM.pw X j)) := by
  have e : X = (X.toNat : Int) := by have := hX.1; omega
  have h := m_power1 X.toNat j (by have := hX.1; have := hX.2; omega) hj
  rw [← e] at h; exact h
end Go.DL
