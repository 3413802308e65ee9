/- The law LeavesInterpolate. -/
import Derived.Test.YtmbbepdbjeciaaaGreatZd
import Derived.Test.YtmbbepdbjeciaaaGreatDm3
import Derived.Test.YtmbbepdbjeciaaaGreatDl30
set_option linter.all false
set_option maxRecDepth 100000
set_option maxHeartbeats 16000000
namespace Go.DL
open Go.Proofs Go

theorem eDot_low (o : List Dot) (K : Nat) : BlkBelow K (.live 2 (o.map eDot)) := by
  intro e he d hd
  obtain ⟨x, _, rfl⟩ := List.mem_map.1 he
  simp only [List.mem_cons, List.not_mem_nil, or_false] at hd
  rcases hd with rfl | rfl <;> rfl
theorem eDot_no (o : List Dot) (k s : Nat) : BlkNo k s (.live 2 (o.map eDot)) := by
  intro e he d hd
  obtain ⟨x, _, rfl⟩ := List.mem_map.1 he
  simp only [List.mem_cons, List.not_mem_nil, or_false] at hd
  rcases hd with rfl | rfl <;> rfl
theorem snapDot {lk : Nat → Option Blk} {b cap : Nat} {o : List Dot} (h : lk b = some (.live 2 (o.map eDot))) : snap lk 5 (.ms b 0 o.length cap) = .sl (o.map eDot) := by
  have e : (o.map eDot).map (List.map (snap lk 4)) = o.map eDot := by
    rw [List.map_map]; exact List.map_congr_left fun x _ => rfl
  simp only [snap, h, Nat.zero_add, List.length_map, Nat.le_refl, if_true, List.drop_zero]
  rw [List.take_of_length_le (by simp), e]
theorem apart_of {l : List Dot} (h1 : l.all dotOk = true) (h2 : dups l = false) : DM.Apart (dX l) := by
  refine ⟨fun x hx => ?_, fun i j hij hj => ?_⟩
  · obtain ⟨p, hp, rfl⟩ := List.mem_map.1 hx
    exact (dotW_of h1 p hp).1
  · rw [dX_len] at hj
    have hd : dupAt l j = false := by
      have := List.any_eq_false.1 h2 j (by simpa using hj)
      simpa using this
    have h3 := List.any_eq_false.1 hd l[i] (List.mem_take_iff_getElem.2 ⟨i, by omega, rfl⟩)
    rw [dX_get l (show i < l.length by omega)]
    simpa using h3
theorem through_law {l : List Dot} (h : (ThroughS l).2 = 0) : l.length ≤ 40 ∧ dotW l ∧ DM.Apart (dX l) ∧ (ThroughS l).1 = DM.through (dX l) (dY l) := by
  unfold ThroughS at h ⊢
  split at h
  · cases h
  · rename_i h1
    rw [if_neg h1]
    split at h
    · rename_i h2
      rw [if_pos h2]
      split at h
      · cases h
      · rename_i h3
        rw [if_neg h3]
        exact ⟨by omega, dotW_of h2, apart_of h2 (by simpa using h3), rfl⟩
    · cases h
theorem horner_cg (c : List Int) (x : Int) : DM.Cg (horner c x) (DM.evP c x) := DM.horner_ev x c
theorem value_law {l : List Dot} (h : (ThroughS l).2 = 0) {k : Nat} (hk : k < l.length) : ValueS (ThroughS l).1 l[k].X = (l[k].Y, 0) := by
  obtain ⟨h1, h2, h3, h4⟩ := through_law h
  have hw := h2 l[k] (List.getElem_mem hk)
  have hlen : (ThroughS l).1.length = l.length := by rw [h4, DM.through_len, dX_len]
  have hall : (ThroughS l).1.all (fun a => decide (W a)) = true := List.all_eq_true.2 fun a ha => by
    rw [h4] at ha
    simpa using DM.through_W _ _ a ha
  unfold ValueS
  rw [if_neg (by rw [hlen]; omega), if_pos ⟨hw.1, hall⟩]
  have h5 := DM.through_at (ys := dY l) h3 (m := k) (by rw [dX_len]; exact hk)
  rw [dX_get l hk, dY_get l hk, ← h4] at h5
  rw [DM.Cg.word ((horner_cg _ _).trans h5) (horner_W _ _) hw.2]
/-- The points of a polynomial from a word on. -/
def dotsS (c : List Int) (a : Int) (k : Nat) : List Dot := (List.range k).map fun i : Nat => ⟨a + i, horner c (a + i)⟩
theorem dotsS_len (c : List Int) (a : Int) (k : Nat) : (dotsS c a k).length = k := by simp [dotsS]
theorem dotsS_succ (c : List Int) (a : Int) (k : Nat) : dotsS c a (k + 1) = dotsS c a k ++ [⟨a + k, horner c (a + k)⟩] := by
  simp [dotsS, List.range_succ]
theorem dotsS_get (c : List Int) (a : Int) {k i : Nat} (h : i < k) : (dotsS c a k)[i]'(by rw [dotsS_len]; exact h) = ⟨a + i, horner c (a + i)⟩ := by
  simp [dotsS]
theorem dots_law {c : List Int} {a : Int} (hc : allW c) (hl : c.length ≤ 8) (hw : ∀ j : Nat, j < c.length → W (a + j)) : ThroughS (dotsS c a c.length) = (c, 0) := by
  have hlen := dotsS_len c a c.length
  have hall : (dotsS c a c.length).all dotOk = true := List.all_eq_true.2 fun p hp => by
    obtain ⟨i, hi, rfl⟩ := List.mem_map.1 hp
    rw [List.mem_range] at hi
    simp only [dotOk, decide_eq_true_eq]
    exact ⟨hw i hi, horner_W _ _⟩
  have hd : dups (dotsS c a c.length) = false := List.any_eq_false.2 fun j hj => by
    rw [List.mem_range, hlen] at hj
    rw [Bool.not_eq_true]
    refine List.any_eq_false.2 fun p hp => ?_
    obtain ⟨i, hi, rfl⟩ := List.mem_take_iff_getElem.1 hp
    rw [dX_get _ (by rw [hlen]; exact hj), dotsS_get c a hj, dotsS_get c a (by omega)]
    simp only [decide_eq_true_eq]
    omega
  unfold ThroughS
  rw [if_neg (by rw [hlen]; omega), if_pos hall, if_neg (by rw [hd]; simp)]
  have hA := apart_of hall hd
  rw [DM.through_of (by rw [dX_len, hlen]) hA hc fun i hi => ?_]
  rw [dX_len, hlen] at hi
  rw [dX_get _ (by rw [hlen]; exact hi), dY_get _ (by rw [hlen]; exact hi), dotsS_get c a hi]
  exact (horner_cg _ _).symm
theorem inv_law {n : Int} (h0 : 1 ≤ n) (h1 : n ≤ 65520) : 1 ≤ inv n ∧ inv n ≤ 65520 ∧ 0 ≤ inv n * n ∧ inv n * n ≤ 4292870400 ∧ inv n * n % 65521 = 1 := by
  have hw := inv_W n
  have h2 : inv n * n % 65521 = 1 := by
    have h := DM.cg_iff.1 (DM.mul_invI (a := n) (by omega) h1)
    rw [Int.mul_comm]
    exact h
  have h3 : inv n ≠ 0 := fun e => by rw [e] at h2; simp at h2
  refine ⟨by omega, by omega, Int.mul_nonneg (by omega) (by omega), ?_, h2⟩
  have := Int.mul_le_mul (show inv n ≤ 65520 by omega) h1 (by omega) (by decide)
  omega

end Go.DL
