/- What a digest tells. -/
import Derived.Test.YtmbbepdbjeciaaaGreatYu4
set_option maxRecDepth 100000
set_option maxHeartbeats 16000000
namespace Go.DL
open Go.Proofs Go

def sortL (l : List Line) : List Line := l.mergeSort fun a b => decide (a.Day < b.Day ∨ a.Day = b.Day ∧ a.ID ≤ b.ID)
theorem sortL_perm (l : List Line) : (sortL l).Perm l := List.mergeSort_perm _ _
theorem sortL_srt (l : List Line) : LSrt (sortL l) := by
  have h := List.pairwise_mergeSort (le := fun a b : Line => decide (a.Day < b.Day ∨ a.Day = b.Day ∧ a.ID ≤ b.ID)) (fun a b c h1 h2 => by
    simp only [decide_eq_true_eq] at *; omega) (fun a b => by
    simp only [Bool.or_eq_true, decide_eq_true_eq]; omega) l
  exact h.imp fun h => by simpa [LLe] using h
/-- The digest of lines that are right. -/
def dig (l : List Line) : Int := digS (wordsS (sortL l))
theorem dig_perm {l m : List Line} (h : LinesOk l) (hp : m.Perm l) : dig m = dig l := by
  unfold dig
  rw [LSrt.one h (sortL_srt m) (sortL_srt l) ((sortL_perm m).trans hp) (sortL_perm l)]
theorem mul7 : ∀ (n : Nat) (x : Int), x * 7 ^ n % 65521 = 0 → x % 65521 = 0
  | 0, x, h => by simpa using h
  | n + 1, x, h => by
    have h2 : (x * 7) * 7 ^ n % 65521 = 0 := by rw [Int.mul_assoc, Int.mul_comm 7, ← Int.pow_succ]; exact h
    have := mul7 n (x * 7) h2
    omega
theorem mulPow (n : Nat) (x : Int) (h : x * (DM.powN 7 n : Nat) % 65521 = 0) : x % 65521 = 0 := by
  refine mul7 n x ?_
  have e : ((DM.powN 7 n : Nat) : Int) = (7 ^ n : Int) % 65521 := by
    show ((7 ^ n % 65521 : Nat) : Int) = _
    rw [Int.natCast_emod, Int.natCast_pow]
    rfl
  rw [e, Int.mul_emod, Int.emod_emod, ← Int.mul_emod] at h
  exact h
def lineW (x : Line) (w : Int) : Line := { x with What := w }
theorem dig_other {l : List Line} {k : Nat} (hk : k < l.length) {w : Int} (h : LinesOk l) (h2 : LinesOk (l.set k (lineW l[k] w))) : dig (l.set k (lineW l[k] w)) = dig l ↔ w = l[k].What := by
  have hmem : l[k] ∈ sortL l := (sortL_perm l).mem_iff.2 (List.getElem_mem hk)
  obtain ⟨A, B, hAB⟩ := List.append_of_mem hmem
  have hs := sortL_srt l
  have hp := sortL_perm l
  rw [hAB] at hs hp
  have hz : LSrt (A ++ lineW l[k] w :: B) := by
    unfold LSrt at hs ⊢
    rw [List.pairwise_append, List.pairwise_cons] at hs ⊢
    obtain ⟨a, ⟨b, c⟩, d⟩ := hs
    refine ⟨a, ⟨b, c⟩, fun x hx y hy => ?_⟩
    rcases List.mem_cons.1 hy with rfl | hy
    · exact (show LLe x l[k] from d x hx _ (List.mem_cons_self ..))
    · exact d x hx y (List.mem_cons_of_mem _ hy)
  have hl : l = l.take k ++ l[k] :: l.drop (k + 1) := by rw [← List.drop_eq_getElem_cons hk, List.take_append_drop]
  have hset : l.set k (lineW l[k] w) = l.take k ++ lineW l[k] w :: l.drop (k + 1) := by
    rw [List.set_eq_take_append_cons_drop, if_pos hk]
  have hpz : (A ++ lineW l[k] w :: B).Perm (l.set k (lineW l[k] w)) := by
    rw [hset]
    refine List.perm_middle.trans (List.Perm.trans (List.Perm.cons _ ?_) List.perm_middle.symm)
    have h3 : (l[k] :: (A ++ B)).Perm (l[k] :: (l.take k ++ l.drop (k + 1))) := by
      refine (List.perm_middle.symm.trans hp).trans ?_
      have := List.perm_middle (a := l[k]) (l₁ := l.take k) (l₂ := l.drop (k + 1))
      rwa [← hl] at this
    exact h3.cons_inv
  have ez : dig (l.set k (lineW l[k] w)) = digS (wordsS (A ++ lineW l[k] w :: B)) := by
    unfold dig
    rw [LSrt.one h2 (sortL_srt _) hz (sortL_perm _) hpz]
  have ey : dig l = digS (wordsS (A ++ l[k] :: B)) := by unfold dig; rw [hAB]
  have e1 : ∀ x : Line, wordsS (A ++ x :: B) = ([((A ++ l[k] :: B).length : Int)] ++ A.flatMap wordsOf ++ [x.ID / 65521 / 65521, x.ID / 65521 % 65521, x.ID % 65521, x.Day]) ++ x.What :: ([x.Worth / 65521, x.Worth % 65521] ++ B.flatMap wordsOf) := fun x => by
    unfold wordsS
    rw [List.flatMap_append, List.flatMap_cons]
    simp [wordsOf]
  rw [ez, ey, e1, e1]
  generalize hU : ([((A ++ l[k] :: B).length : Int)] ++ A.flatMap wordsOf ++ [l[k].ID / 65521 / 65521, l[k].ID / 65521 % 65521, l[k].ID % 65521, l[k].Day]) = U
  generalize hV : ([l[k].Worth / 65521, l[k].Worth % 65521] ++ B.flatMap wordsOf) = V
  have hU2 : ([((A ++ l[k] :: B).length : Int)] ++ A.flatMap wordsOf ++ [(lineW l[k] w).ID / 65521 / 65521, (lineW l[k] w).ID / 65521 % 65521, (lineW l[k] w).ID % 65521, (lineW l[k] w).Day]) = U := hU
  have hV2 : ([(lineW l[k] w).Worth / 65521, (lineW l[k] w).Worth % 65521] ++ B.flatMap wordsOf) = V := hV
  rw [hU2, hV2]
  change digS (U ++ w :: V) = digS (U ++ l[k].What :: V) ↔ _
  unfold digS
  rw [dsum_append, dsum_append, dsum, dsum, Nat.zero_add]
  have hb1 := h2.2.1 (lineW l[k] w) (by rw [hset]; simp)
  have hb2 := h.2.1 l[k] (List.getElem_mem hk)
  simp only [lineV, Bool.and_eq_true, decide_eq_true_eq] at hb1 hb2
  have hw : 0 ≤ w ∧ w ≤ 1000 := hb1.2.2.1
  constructor
  · intro h
    have h3 : (w - l[k].What) * (DM.powN 7 U.length : Nat) % 65521 = 0 := by
      rw [Int.sub_mul]; omega
    have h4 := mulPow _ _ h3
    omega
  · rintro e; rw [← e]
theorem turned_perm (l : List Line) (k : Nat) : (l.drop k ++ l.take k).Perm l := by
  have := List.perm_append_comm (l₁ := l.drop k) (l₂ := l.take k)
  rwa [List.take_append_drop] at this
end Go.DL
