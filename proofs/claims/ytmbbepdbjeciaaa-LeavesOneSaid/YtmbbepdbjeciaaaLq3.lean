/- The law LeavesRecover, plain. -/
import Derived.Test.YtmbbepdbjeciaaaLq2
import Derived.Test.YtmbbepdbjeciaaaLv1
set_option maxRecDepth 100000
set_option maxHeartbeats 16000000
namespace Go.DL
open Go.Proofs Go

theorem ckl_of {s : Shape} : ∀ {l seen : List Leaf}, (∀ x, x ∈ l → leafOk s x = true ∧ numIn seen x.Number = false) → l.Pairwise (fun x y => x.Number ≠ y.Number) → cklS s seen l = 0
  | [], _, _, _ => rfl
  | x :: r, seen, h, hp => by
    obtain ⟨h1, h2⟩ := h x (List.mem_cons_self ..)
    obtain ⟨p1, p2⟩ := List.pairwise_cons.1 hp
    rw [cklS, if_pos h1, if_neg (by rw [h2]; exact Bool.false_ne_true)]
    refine ckl_of (fun y hy => ⟨(h y (List.mem_cons_of_mem _ hy)).1, ?_⟩) p2
    have h3 := (h y (List.mem_cons_of_mem _ hy)).2
    simp only [numIn, List.any_append, Bool.or_eq_false_iff, List.any_cons, List.any_nil, decide_eq_false_iff_not, and_true] at h3 ⊢
    exact ⟨h3, p1 y hy⟩
section
variable {N w : Nat} {d : List (List Int)} {hs : List Harm}
end
end Go.DL
