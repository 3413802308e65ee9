/- How many copies have a leaf. -/
import Derived.Test.YtmbbepdbjeciaaaGreatZy
import Derived.Test.YtmbbepdbjeciaaaGreatE14
set_option maxRecDepth 100000
set_option maxHeartbeats 16000000
namespace Go.DL
open Go.Proofs Go
abbrev eLvs (l : List Leaf) : List D := [.sl (l.map eLeaf)]
theorem flat_le {α : Type} {cs : List (List α)} {m : Nat} (h : ∀ l, l ∈ cs → l.length ≤ m) : cs.flatten.length ≤ cs.length * m := by
  induction cs with
  | nil => simp
  | cons a r ih =>
    have h1 := ih fun l hl => h l (List.mem_cons_of_mem _ hl)
    have h2 := h a (List.mem_cons_self ..)
    rw [List.flatten_cons, List.length_append, List.length_cons, Nat.succ_mul]; omega
end Go.DL
