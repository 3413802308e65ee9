/- Digest. -/
import Derived.Test.YtmbbepdbjeciaaaGreatYu3
set_option maxRecDepth 100000
set_option maxHeartbeats 16000000
namespace Go.DL
open Go.Proofs Go
theorem clS_iff : ∀ (seen l : List Line), clS seen l = 0 ↔ (∀ x, x ∈ l → lineV x = true) ∧ l.Pairwise (fun x y => ¬ x.ID = y.ID) ∧ ∀ x, x ∈ l → idIn seen x.ID = false
  | seen, [] => by simp [clS]
  | seen, x :: r => by
    have ih := clS_iff (seen ++ [x]) r
    rw [clS]
    by_cases h1 : lineV x = true
    · rw [if_pos h1]
      by_cases h2 : idIn seen x.ID = true
      · rw [if_pos h2]
        constructor
        · intro h; exact absurd h (by decide)
        · intro ⟨_, _, h⟩
          rw [h x (List.mem_cons_self ..)] at h2; cases h2
      · rw [if_neg h2, ih]
        have e : ∀ y, idIn (seen ++ [x]) y = (idIn seen y || decide (x.ID = y)) := fun y => by simp [idIn]
        constructor
        · intro ⟨a, b, c⟩
          refine ⟨List.forall_mem_cons.2 ⟨h1, a⟩, List.pairwise_cons.2 ⟨fun y hy => ?_, b⟩, List.forall_mem_cons.2 ⟨by simpa using h2, fun y hy => ?_⟩⟩
          · have := c y hy; rw [e, Bool.or_eq_false_iff] at this; simpa using this.2
          · have := c y hy; rw [e, Bool.or_eq_false_iff] at this; exact this.1
        · intro ⟨a, b, c⟩
          rw [List.pairwise_cons] at b
          refine ⟨fun y hy => a y (List.mem_cons_of_mem _ hy), b.2, fun y hy => ?_⟩
          rw [e, c y (List.mem_cons_of_mem _ hy), Bool.false_or]
          exact decide_eq_false (b.1 y hy)
    · rw [if_neg h1]
      constructor
      · intro h; exact absurd h (by decide)
      · intro ⟨a, _⟩; exact absurd (a x (List.mem_cons_self ..)) h1
/-- Lines that are right. -/
def LinesOk (l : List Line) : Prop := l.length ≤ 60 ∧ (∀ x, x ∈ l → lineV x = true) ∧ l.Pairwise (fun x y => ¬ x.ID = y.ID)
theorem checkLines_iff (l : List Line) : CheckLinesS l = 0 ↔ LinesOk l := by
  unfold CheckLinesS LinesOk
  by_cases h : 60 < l.length
  · rw [if_pos h]
    exact ⟨fun h => absurd h (by decide), fun h => by omega⟩
  · rw [if_neg h, clS_iff]
    exact ⟨fun ⟨a, b, _⟩ => ⟨by omega, a, b⟩, fun ⟨_, a, b⟩ => ⟨a, b, fun _ _ => rfl⟩⟩
theorem LinesOk.perm {l m : List Line} (h : LinesOk l) (hp : m.Perm l) : LinesOk m :=
  ⟨by rw [hp.length_eq]; exact h.1, fun x hx => h.2.1 x (hp.mem_iff.1 hx), (hp.pairwise_iff (fun {x y} h e => h e.symm)).2 h.2.2⟩
theorem LinesOk.ok {l : List Line} (h : LinesOk l) : ∀ x, x ∈ l → lineOk x := fun x hx => by
  have := h.2.1 x hx
  simp only [lineV, Bool.and_eq_true, decide_eq_true_eq] at this
  refine ⟨?_, ?_, ?_, ?_⟩ <;> omega
theorem pair_eq {l : List Line} (h : l.Pairwise (fun x y => ¬ x.ID = y.ID)) {x y : Line} (hx : x ∈ l) (hy : y ∈ l) (e : x.ID = y.ID) : x = y := by
  induction l with
  | nil => cases hx
  | cons z l ih =>
    obtain ⟨h1, h2⟩ := List.pairwise_cons.1 h
    rcases List.mem_cons.1 hx with e1 | hx'
    · rcases List.mem_cons.1 hy with e2 | hy'
      · rw [e1, e2]
      · exact absurd (by rw [← e1]; exact e) (h1 _ hy')
    · rcases List.mem_cons.1 hy with e2 | hy'
      · exact absurd (by rw [← e2]; exact e.symm) (h1 _ hx')
      · exact ih h2 hx' hy'
/-- There is just one order. -/
theorem LSrt.one {l a b : List Line} (h : LinesOk l) (ha : LSrt a) (hb : LSrt b) (pa : a.Perm l) (pb : b.Perm l) : a = b :=
  (pa.trans pb.symm).eq_of_pairwise (fun x y hx hy h1 h2 => pair_eq h.2.2 (pa.mem_iff.1 hx) (pb.mem_iff.1 hy) (by unfold LLe at h1 h2; omega)) ha hb
theorem snapLn {lk : Nat → Option Blk} {b m cap k : Nat} {o : List Line} (h : lk b = some (.live 4 (o.map eLine))) (hm : m = o.length) : snap lk (k + 1) (.ms b 0 m cap) = .sl (o.map eLine) := by
  subst hm
  simp only [snap, h, Nat.zero_add, List.length_map, Nat.le_refl, if_true, List.drop_zero]
  rw [List.take_of_length_le (by simp), List.map_map]
  refine congrArg D.sl (List.map_congr_left fun x _ => ?_)
  cases k <;> rfl
theorem wordsOf_W {x : Line} (h : lineV x = true) : ∀ w, w ∈ wordsOf x → W w := by
  simp only [lineV, Bool.and_eq_true, decide_eq_true_eq] at h
  intro w hw
  simp only [wordsOf, List.mem_cons, List.not_mem_nil, or_false] at hw
  rcases hw with rfl | rfl | rfl | rfl | rfl | rfl | rfl <;> (constructor <;> omega)
theorem words_W {l : List Line} (h : LinesOk l) : ∀ w, w ∈ wordsS l → W w := by
  intro w hw
  rcases List.mem_cons.1 hw with rfl | hw
  · have := h.1; constructor <;> omega
  · obtain ⟨x, hx, hw⟩ := List.mem_flatMap.1 hw
    exact wordsOf_W (h.2.1 x hx) w hw
theorem words_len1 {l : List Line} (h : l.length ≤ 1000) : (wordsS l).length ≤ 7001 := by
  show ((l.length : Int) :: l.flatMap wordsOf).length ≤ _
  rw [List.length_cons, words_len]; omega
end Go.DL
