/- Join of the reference. -/
import Derived.Test.YtmbbepdbjeciaaaGreatYv1
import Derived.Test.YtmbbepdbjeciaaaGreatP1
import Derived.Test.YtmbbepdbjeciaaaGreatYw3
import Derived.Test.YtmbbepdbjeciaaaGreatE14
set_option maxRecDepth 100000
set_option maxHeartbeats 16000000
namespace Go.DL
open Go.Proofs Go
theorem ckl_ok2 {s : Shape} : ∀ {l seen : List Leaf}, cklS s seen l = 0 → (∀ x, x ∈ l → leafOk s x = true ∧ numIn seen x.Number = false) ∧ l.Pairwise (fun x y => x.Number ≠ y.Number)
  | [], _, _ => ⟨fun x h => (by cases h), List.Pairwise.nil⟩
  | x :: r, seen, h => by
    rw [cklS] at h
    split at h
    · rename_i h1
      split at h
      · cases h
      · rename_i h2
        obtain ⟨i1, i2⟩ := ckl_ok2 h
        have h3 : ∀ y, y ∈ r → numIn seen y.Number = false ∧ x.Number ≠ y.Number := fun y hy => by
          have := (i1 y hy).2
          simp only [numIn, List.any_append, Bool.or_eq_false_iff, List.any_cons, List.any_nil, decide_eq_false_iff_not, and_true] at this
          exact ⟨this.1, this.2⟩
        refine ⟨fun y hy => ?_, List.pairwise_cons.2 ⟨fun y hy => (h3 y hy).2, i2⟩⟩
        rcases List.mem_cons.1 hy with rfl | hy
        · exact ⟨h1, by simpa using h2⟩
        · exact ⟨(i1 y hy).1, (h3 y hy).1⟩
    · cases h
/-- What leaves are that have no error. -/
structure LvsOk (s : Shape) (l : List Leaf) : Prop where
  len : l.length ≤ 40
  num : ∀ x, x ∈ l → 1 ≤ x.Number ∧ x.Number ≤ s.Data + s.Checks
  wl : ∀ x, x ∈ l → (x.Words.length : Int) = s.Width ∧ allW x.Words
  nd : l.Pairwise (fun x y => x.Number ≠ y.Number)
theorem lvs_of {s : Shape} {l : List Leaf} (h : CheckLeavesS s l = 0) : CkOk s ∧ LvsOk s l := by
  unfold CheckLeavesS at h
  rcases CheckS_cases s with ⟨e, hk⟩ | ⟨e, hk⟩
  · rw [if_pos e] at h
    split at h
    · cases h
    · rename_i hle
      obtain ⟨h1, h2⟩ := ckl_ok2 h
      have key : ∀ x, x ∈ l → (1 ≤ x.Number ∧ x.Number ≤ s.Data + s.Checks) ∧ (x.Words.length : Int) = s.Width ∧ allW x.Words := fun x hx => by
        have := (h1 x hx).1
        simp only [leafOk, Bool.and_eq_true, decide_eq_true_eq] at this
        exact ⟨this.1, this.2.1, allW_of this.2.2⟩
      exact ⟨hk, by omega, fun x hx => (key x hx).1, fun x hx => (key x hx).2, h2⟩
  · rw [if_neg (by omega), e] at h; cases h
def ckAll (s : Shape) : List (List Leaf) → Int
  | [] => 0
  | l :: r => if CheckLeavesS s l = 0 then ckAll s r else CheckLeavesS s l
theorem ckAll_ok {s : Shape} : ∀ {cs : List (List Leaf)}, ckAll s cs = 0 → ∀ l, l ∈ cs → CheckLeavesS s l = 0
  | [], _, l, h => (by cases h)
  | c :: r, h0, l, h => by
    rw [ckAll] at h0
    split at h0
    · rename_i e
      rcases List.mem_cons.1 h with rfl | h
      · exact e
      · exact ckAll_ok h0 l h
    · contradiction
def selL (cs : List (List Leaf)) (n : Int) : List Leaf := cs.flatten.filter fun y => decide (y.Number = n)
def rF (cs : List (List Leaf)) (n : Int) (l : List Leaf) : DM.RSt Leaf := (l.filter fun y => decide (y.Number = n)).foldl (DM.rStep Leaf.Words (DM.cnt Leaf.Words (selL cs n))) ⟨⟨0, []⟩, 0, false⟩
theorem rF_snoc (cs : List (List Leaf)) (n : Int) (l : List Leaf) (x : Leaf) : rF cs n (l ++ [x]) = if x.Number = n then DM.rStep Leaf.Words (DM.cnt Leaf.Words (selL cs n)) (rF cs n l) x else rF cs n l := by
  unfold rF
  rw [List.filter_append, List.foldl_append]
  by_cases h : x.Number = n
  · rw [if_pos h, List.filter_cons, if_pos (by simpa using h)]; rfl
  · rw [if_neg h, List.filter_cons, if_neg (by simpa using h)]; rfl
theorem rF_att {cs : List (List Leaf)} {n : Int} : ∀ (l : List Leaf), (rF cs n l).most ≤ cs.flatten.length ∧ (0 < (rF cs n l).most → (rF cs n l).best ∈ l ∧ (rF cs n l).best.Number = n) := by
  refine DM.snocInd ⟨Nat.zero_le _, fun h => absurd h (Nat.lt_irrefl 0)⟩ fun l x ih => ?_
  · rw [rF_snoc]
    split
    · rename_i hx
      unfold DM.rStep
      have hc : DM.cnt Leaf.Words (selL cs n) x.Words ≤ cs.flatten.length := by
        exact Nat.le_trans List.countP_le_length (List.length_filter_le _ _)
      split
      · exact ⟨hc, fun _ => ⟨List.mem_append_right _ (List.mem_singleton.2 rfl), hx⟩⟩
      · split
        · exact ⟨ih.1, fun h => ⟨List.mem_append_left _ (ih.2 h).1, (ih.2 h).2⟩⟩
        · exact ⟨ih.1, fun h => ⟨List.mem_append_left _ (ih.2 h).1, (ih.2 h).2⟩⟩
    · exact ⟨ih.1, fun h => ⟨List.mem_append_left _ (ih.2 h).1, (ih.2 h).2⟩⟩
def jPick (cs : List (List Leaf)) (n : Int) : List Leaf := if 0 < (rF cs n cs.flatten).most ∧ (rF cs n cs.flatten).equal = false then [(rF cs n cs.flatten).best] else []
def joinL (cs : List (List Leaf)) (N : Nat) : List Leaf := (List.range N).flatMap fun (i : Nat) => jPick cs ((i : Int) + 1)
theorem joinL_succ (cs : List (List Leaf)) (N : Nat) : joinL cs (N + 1) = joinL cs N ++ jPick cs ((N : Int) + 1) := by
  simp [joinL, List.range_succ]
theorem jPick_len (cs : List (List Leaf)) (n : Int) : (jPick cs n).length ≤ 1 := by
  unfold jPick; split <;> simp
theorem joinL_len (cs : List (List Leaf)) : ∀ N, (joinL cs N).length ≤ N
  | 0 => Nat.le_refl _
  | N + 1 => by
    rw [joinL_succ, List.length_append]
    have := joinL_len cs N
    have := jPick_len cs ((N : Int) + 1)
    omega
def JoinS (s : Shape) (cs : List (List Leaf)) : List Leaf × Int :=
  if CheckS s = 0 then (if 5 < cs.length then ([], 2) else if ckAll s cs = 0 then (joinL cs (s.Data + s.Checks).toNat, 0) else ([], ckAll s cs)) else ([], 1)
end Go.DL
