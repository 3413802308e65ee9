/- Digest. -/
import Derived.Test.YtmbbepdbjeciaaaGreatYu2
set_option maxRecDepth 100000
set_option maxHeartbeats 16000000
namespace Go.DL
open Go.Proofs Go
/-- Lines that are right. -/
def LinesOk (l : List Line) : Prop := l.length ≤ 60 ∧ (∀ x, x ∈ l → lineV x = true) ∧ l.Pairwise (fun x y => ¬ x.ID = y.ID)
theorem LinesOk.perm {l m : List Line} (h : LinesOk l) (hp : m.Perm l) : LinesOk m :=
  ⟨by rw [hp.length_eq]; exact h.1, fun x hx => h.2.1 x (hp.mem_iff.1 hx), (hp.pairwise_iff (fun {x y} h e => h e.symm)).2 h.2.2⟩
theorem LinesOk.ok {l : List Line} (h : LinesOk l) : ∀ x, x ∈ l → lineOk x := fun x hx => by
  have := h.2.1 x hx
  simp only [lineV, Bool.and_eq_true, decide_eq_true_eq] at this
  refine ⟨?_, ?_, ?_, ?_⟩ <;> omega
theorem pair_eq {l : List Line} (h : l.Pairwise (fun x y => ¬ x.ID = y.ID)) {x y : Line} (hx : x ∈ l) (hy : y ∈ l) (e : x.ID = y.ID) : x = y := by
  induction l with
  | nil => cases hx
  | cons z l ih =>
    obtain ⟨h1, h2⟩ := List.pairwise_cons.1 h
    rcases List.mem_cons.1 hx with e1 | hx'
    · rcases List.mem_cons.1 hy with e2 | hy'
      · rw [e1, e2]
      · exact absurd (by rw [← e1]; exact e) (h1 _ hy')
    · rcases List.mem_cons.1 hy with e2 | hy'
      · exact absurd (by rw [← e2]; exact e.symm) (h1 _ hx')
      · exact ih h2 hx' hy'
/-- There is just one order. -/
theorem LSrt.one {l a b : List Line} (h : LinesOk l) (ha : LSrt a) (hb : LSrt b) (pa : a.Perm l) (pb : b.Perm l) : a = b :=
  (pa.trans pb.symm).eq_of_pairwise (fun x y hx hy h1 h2 => pair_eq h.2.2 (pa.mem_iff.1 hx) (pb.mem_iff.1 hy) (by unfold LLe at h1 h2; omega)) ha hb
end Go.DL
