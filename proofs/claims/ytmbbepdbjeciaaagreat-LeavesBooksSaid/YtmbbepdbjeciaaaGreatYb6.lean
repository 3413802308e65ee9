/- LeavesBooks, plain: Read of Write; Known on a later day; Merge in either order, and once more. -/
import Derived.Test.YtmbbepdbjeciaaaGreatYb1
import Derived.Test.YtmbbepdbjeciaaaGreatYw8
set_option maxRecDepth 100000
set_option maxHeartbeats 4000000
namespace Go.DL
open Go.Proofs Go
/-! ### Read of Write -/
theorem line_back {x : Line} (h : lineV x = true) : lineOfS (wordsOf x) = x := by
  obtain ⟨a, b, c, d⟩ := x
  simp only [lineOfS, wordsOf, List.getD_cons_zero, List.getD_cons_succ]
  congr 1
  · omega
  · omega
theorem flat7 : ∀ (l : List Line) (i : Nat) (x : Line) (T : List Int), l[i]? = some x → ((l.flatMap wordsOf ++ T).drop (i * 7)).take 7 = wordsOf x
  | [], _, _, _, h => by simp at h
  | y :: l, 0, x, T, h => by
    simp only [List.getElem?_cons_zero, Option.some.injEq] at h
    subst h
    rw [Nat.zero_mul, List.drop_zero, List.flatMap_cons, List.append_assoc, List.take_append_of_le_length (by simp [wordsOf])]
    rfl
  | y :: l, i + 1, x, T, h => by
    rw [List.getElem?_cons_succ] at h
    have ih := flat7 l i x T h
    rw [List.flatMap_cons, List.append_assoc]
    have e : (wordsOf y ++ (l.flatMap wordsOf ++ T)).drop ((i + 1) * 7) = (l.flatMap wordsOf ++ T).drop (i * 7) := by
      rw [List.drop_append]
      have e1 : (wordsOf y).length = 7 := rfl
      rw [e1, List.drop_of_length_le (by rw [e1]; omega), List.nil_append]
      congr 1; omega
    rw [e]; exact ih
theorem lines_back {l : List Line} (h : ∀ x, x ∈ l → lineV x = true) (T : List Int) : linesOf (wordsS l ++ T) l.length = l := by
  refine List.ext_getElem? fun i => ?_
  unfold linesOf
  by_cases hi : i < l.length
  · obtain ⟨x, hx⟩ : ∃ x, l[i]? = some x := ⟨_, List.getElem?_eq_getElem hi⟩
    rw [List.getElem?_map, List.getElem?_range hi, hx, Option.map_some]
    have e : ((wordsS l ++ T).drop (1 + i * 7)).take 7 = wordsOf x := by
      have : (wordsS l ++ T).drop (1 + i * 7) = (l.flatMap wordsOf ++ T).drop (i * 7) := by
        show (((l.length : Int) :: l.flatMap wordsOf) ++ T).drop (1 + i * 7) = _
        rw [Nat.add_comm, List.cons_append, List.drop_succ_cons]
      rw [this]; exact flat7 l i x T hx
    rw [e, line_back (h x (List.mem_of_getElem? hx))]
  · rw [List.getElem?_eq_none (by simp; omega), List.getElem?_eq_none (by omega)]
theorem rows_flat {W : Nat} {w : List Int} : ∀ D : Nat, D * W ≤ w.length → (rowsOf D W w).flatten = w.take (D * W)
  | 0, _ => by simp [rowsOf]
  | D + 1, h => by
    have h2 : D * W ≤ (D + 1) * W := Nat.mul_le_mul_right _ (by omega)
    rw [rowsOf_succ, List.flatten_append, rows_flat D (by omega), List.flatten_cons, List.flatten_nil, List.append_nil]
    have e : w.take (D * W) = (w.take ((D + 1) * W)).take (D * W) := by rw [List.take_take, Nat.min_eq_left h2]
    rw [e, List.take_append_drop]
theorem pad_mem {n : Nat} {w : List Int} (h : ∀ x, x ∈ w → W x) : ∀ x, x ∈ padS n w → W x := by
  intro x hx
  rcases List.mem_append.1 hx with hx | hx
  · exact h x hx
  · rw [List.eq_of_mem_replicate hx]; exact ⟨by decide, by decide⟩
theorem read_write {s : Shape} {l : List Line} (h : (WriteS s l).2 = 0) : ReadS s (WriteS s l).1 = (l, 0) := by
  have hW : WriteS s l = ((WriteS s l).1, 0) := by rw [← h]
  generalize hr : (WriteS s l).1 = r at hW ⊢
  rcases CheckS_cases s with ⟨e, hk⟩ | ⟨e, hk⟩
  · unfold WriteS at hW
    rw [e, if_pos rfl] at hW
    by_cases h2 : CheckLinesS l = 0
    · rw [if_pos h2] at hW
      have hok := (checkLines_iff l).1 h2
      unfold writeS at hW
      by_cases hfit : (wordsS l).length ≤ s.Data.toNat * s.Width.toNat
      · rw [if_pos hfit] at hW
        simp only [Prod.mk.injEq, and_true] at hW
        have hpl := padS_len hfit
        have hfl : r.flatten = padS (s.Data.toNat * s.Width.toNat) (wordsS l) := by
          rw [← hW, rows_flat _ (by rw [hpl]; exact Nat.le_refl _), List.take_of_length_le (by rw [hpl]; exact Nat.le_refl _)]
        have hlen : (wordsS l).length = 1 + 7 * l.length := by
          show (l.flatMap wordsOf).length + 1 = _
          rw [words_len]; omega
        have h0 : r.flatten.getD 0 0 = (l.length : Int) := by rw [hfl]; rfl
        have hn : r.flatten.length = s.Data.toNat * s.Width.toNat := by rw [hfl, hpl]
        have hD : DataS s r = true := by
          have hrows : r = rowsOf s.Data.toNat s.Width.toNat (padS (s.Data.toNat * s.Width.toNat) (wordsS l)) := hW.symm
          have hk1 := hk
          obtain ⟨⟨q1, q2⟩, q3, q4, q5⟩ := hk
          have hm := pad_mem (n := s.Data.toNat * s.Width.toNat) (words_W hok)
          unfold DataS
          rw [Bool.and_eq_true, decide_eq_true_eq, List.all_eq_true]
          refine ⟨?_, fun x hx => ?_⟩
          · rw [hrows]; unfold rowsOf; rw [List.length_map, List.length_range]; omega
          · rw [hrows] at hx
            unfold rowsOf at hx
            obtain ⟨k, hk, rfl⟩ := List.mem_map.1 hx
            have hk2 := List.mem_range.1 hk
            have hl := row_len hpl hk2
            unfold rowOk
            rw [Bool.and_eq_true, decide_eq_true_eq, List.all_eq_true]
            exact ⟨by rw [hl]; exact Int.toNat_of_nonneg (by omega), fun a ha => decide_eq_true (hm a (List.mem_of_mem_take (List.mem_of_mem_drop ha)))⟩
        unfold ReadS
        rw [e, if_pos rfl, if_pos hD, h0, hn, if_neg (by have := hok.1; omega), hfl, Int.toNat_natCast]
        have hb := lines_back hok.2.1 (List.replicate (s.Data.toNat * s.Width.toNat - (wordsS l).length) 0)
        change linesOf (padS _ (wordsS l)) l.length = l at hb
        rw [hb, if_pos ?_]
        unfold WriteS
        rw [e, if_pos rfl, if_pos h2]
        unfold writeS
        rw [if_pos hfit]
        simp only [hW]
      · rw [if_neg hfit] at hW
        simp at hW
    · rw [if_neg h2] at hW
      simp only [Prod.mk.injEq] at hW
      exact absurd hW.2 h2
  · unfold WriteS at hW
    rw [e, if_neg (by decide)] at hW
    simp at hW
/-! ### Known on a later day -/
theorem cut_down {p : Line → Bool} : ∀ l : List Line, l.Pairwise (fun x y => p y = true → p x = true) → l.take (l.filter p).length = l.filter p
  | [], _ => rfl
  | x :: r, h => by
    obtain ⟨h1, h2⟩ := List.pairwise_cons.1 h
    have ih := cut_down r h2
    by_cases hx : p x = true
    · rw [List.filter_cons_of_pos hx, List.length_cons, List.take_succ_cons, ih]
    · have e : r.filter p = [] := by
        rw [List.filter_eq_nil_iff]
        intro y hy hy2
        exact hx (h1 y hy hy2)
      rw [List.filter_cons_of_neg hx, e]; rfl
theorem known_later {l : List Line} {d1 d2 : Int} (h : d1 ≤ d2) :
    ((sortL l).filter fun x => !lateB d1 x).length ≤ ((sortL l).filter fun x => !lateB d2 x).length ∧
    ((sortL l).filter fun x => !lateB d2 x).take ((sortL l).filter fun x => !lateB d1 x).length = (sortL l).filter fun x => !lateB d1 x := by
  have hs := sortL_srt l
  generalize sortL l = s at hs ⊢
  have hs2 : LSrt (s.filter fun x => !lateB d2 x) := hs.sublist List.filter_sublist
  have e : (s.filter fun x => !lateB d2 x).filter (fun x => !lateB d1 x) = s.filter fun x => !lateB d1 x := by
    rw [List.filter_filter]
    refine List.filter_congr fun x _ => ?_
    unfold lateB
    by_cases h1 : d1 < x.Day
    · simp [h1]
    · have : ¬ d2 < x.Day := by omega
      simp [h1, this]
  have hc := cut_down (p := fun x => !lateB d1 x) (s.filter fun x => !lateB d2 x) (hs2.imp fun {x y} hxy hy => by
    unfold lateB at hy ⊢
    unfold LLe at hxy
    simp only [Bool.not_eq_true', decide_eq_false_iff_not] at hy ⊢
    omega)
  rw [e] at hc
  refine ⟨?_, hc⟩
  rw [← e]; exact List.length_filter_le _ _
/-! ### Merge in either order, and once more -/
theorem fork_nil {a b : List Line} (ha : LinesOk a) (hb : LinesOk b) : forkW a b = [] ↔ NoFk (a ++ b) := by
  refine ⟨nofk_of ha hb, fun h => ?_⟩
  unfold forkW
  rw [List.map_eq_nil_iff, List.filter_eq_nil_iff]
  intro y hy hf
  unfold fkB at hf
  cases hq : a.find? (fun x => decide (x.ID = y.ID)) with
  | none => rw [hq] at hf; cases hf
  | some x =>
    rw [hq] at hf
    have h3 : x.ID = y.ID := by simpa using List.find?_some hq
    have := h x (List.mem_append_left _ (List.mem_of_find?_eq_some hq)) y (List.mem_append_right _ hy) h3
    subst this
    simp at hf
theorem NoFk.sub {a b : List Line} (h : NoFk a) (hs : ∀ x, x ∈ b → x ∈ a) : NoFk b := fun x hx y hy => h x (hs x hx) y (hs y hy)
theorem lined_of {a b : List Line} (ha : LinesOk a) (hb : LinesOk b) : lined a b = 0 := by
  unfold lined
  rw [if_pos ((checkLines_iff a).2 ha)]
  exact (checkLines_iff b).2 hb
theorem sortL_comm {a b : List Line} (h : NoFk (a ++ b)) : sortL (b ++ a) = sortL (a ++ b) :=
  sortL_one h (sortL_srt _) ((sortL_perm _).trans List.perm_append_comm)
theorem merge_comm {a b : List Line} (ha : LinesOk a) (hb : LinesOk b) : MergeS b a = MergeS a b := by
  unfold MergeS
  rw [lined_of ha hb, lined_of hb ha, if_pos rfl, if_pos rfl]
  by_cases h : forkW a b = []
  · have hn := (fork_nil ha hb).1 h
    have h2 : forkW b a = [] := (fork_nil hb ha).2 (hn.sub fun x hx => List.mem_append.2 (List.mem_append.1 hx).symm)
    rw [if_pos h, if_pos h2, sortL_comm hn]
  · have h2 : ¬ forkW b a = [] := fun h2 => h ((fork_nil ha hb).2 (((fork_nil hb ha).1 h2).sub fun x hx => List.mem_append.2 (List.mem_append.1 hx).symm))
    rw [if_neg h, if_neg h2]
theorem dd_iff {z : Line} {l : List Line} : z ∈ dd (sortL l) ↔ z ∈ l :=
  ⟨fun h => (sortL_perm l).mem_iff.1 ((dd_sub _).subset h), fun h => dd_mem _ ((sortL_perm l).mem_iff.2 h)⟩
theorem dd_ok {l : List Line} (hn : NoFk l) (hv : ∀ x, x ∈ l → lineV x = true) (hl : (dd (sortL l)).length ≤ 60) : LinesOk (dd (sortL l)) := by
  refine ⟨hl, fun x hx => hv x (dd_iff.1 hx), ?_⟩
  have hn2 : NoFk (sortL l) := hn.sub fun x hx => (sortL_perm l).mem_iff.1 hx
  refine (dd_nodup _ (sortL_srt l) hn2).imp_of_mem fun {x y} hx hy h e => h (hn x (dd_iff.1 hx) y (dd_iff.1 hy) e)
theorem merge_again {a b : List Line} (ha : LinesOk a) (hb : LinesOk b) (h : (MergeS a b).2 = 0) :
    MergeS (MergeS a b).1 b = ((MergeS a b).1, 0) ∧ (MergeS a b).1.length ≤ 60 ∧ (∀ x, x ∈ a → x ∈ (MergeS a b).1) ∧ ∀ x, x ∈ b → x ∈ (MergeS a b).1 := by
  have e : MergeS a b = (dd (sortL (a ++ b)), 0) ∧ forkW a b = [] ∧ ¬ 60 < (dd (sortL (a ++ b))).length := by
    unfold MergeS at h ⊢
    rw [lined_of ha hb, if_pos rfl] at h ⊢
    by_cases hf : forkW a b = []
    · rw [if_pos hf] at h ⊢
      by_cases h6 : 60 < (dd (sortL (a ++ b))).length
      · rw [if_pos h6] at h; simp at h
      · rw [if_neg h6]; exact ⟨rfl, hf, h6⟩
    · rw [if_neg hf] at h; simp at h
  obtain ⟨e, hf, h6⟩ := e
  have hn := (fork_nil ha hb).1 hf
  rw [e]
  have hv : ∀ x, x ∈ a ++ b → lineV x = true := fun x hx => (List.mem_append.1 hx).elim (ha.2.1 x) (hb.2.1 x)
  have hz := dd_ok hn hv (by omega)
  have hmem : ∀ x, x ∈ dd (sortL (a ++ b)) ↔ x ∈ a ++ b := fun x => dd_iff
  have hsz := dd_srt (sortL_srt (a ++ b))
  generalize dd (sortL (a ++ b)) = z at hz hmem h6 hsz ⊢
  refine ⟨?_, by simpa using h6, fun x hx => (hmem x).2 (List.mem_append_left _ hx), fun x hx => (hmem x).2 (List.mem_append_right _ hx)⟩
  have hn2 : NoFk (z ++ b) := hn.sub fun x hx => (List.mem_append.1 hx).elim (hmem x).1 (List.mem_append_right _)
  have hf2 := (fork_nil hz hb).2 hn2
  have hn3 : NoFk (sortL (z ++ b)) := hn2.sub fun x hx => (sortL_perm _).mem_iff.1 hx
  have hp : (dd (sortL (z ++ b))).Perm z := (List.perm_ext_iff_of_nodup (dd_nodup _ (sortL_srt _) hn3) hz.nodup).2 fun x => by
    rw [dd_iff]
    refine ⟨fun hx => (List.mem_append.1 hx).elim id fun hx => (hmem x).2 (List.mem_append_right _ hx), fun hx => List.mem_append_left _ hx⟩
  have hd : dd (sortL (z ++ b)) = z := hp.eq_of_pairwise (fun x y hx hy h1 h2 => hn x ((hmem x).1 (hp.mem_iff.1 hx)) y ((hmem y).1 hy) (by unfold LLe at h1 h2; omega)) (dd_srt (sortL_srt _)) hsz
  unfold MergeS
  rw [lined_of hz hb, if_pos rfl, if_pos hf2, hd, if_neg h6]
end Go.DL
