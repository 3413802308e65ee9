/- The law LeavesRecover, plain. -/
import Derived.Test.YtmbbepdbjeciaaaLq2
import Derived.Test.YtmbbepdbjeciaaaLv1
set_option maxRecDepth 100000
set_option maxHeartbeats 16000000
namespace Go.DL
open Go.Proofs Go

theorem ckl_of {s : Shape} : ∀ {l seen : List Leaf}, (∀ x, x ∈ l → leafOk s x = true ∧ numIn seen x.Number = false) → l.Pairwise (fun x y => x.Number ≠ y.Number) → cklS s seen l = 0
  | [], _, _, _ => rfl
  | x :: r, seen, h, hp => by
    obtain ⟨h1, h2⟩ := h x (List.mem_cons_self ..)
    obtain ⟨p1, p2⟩ := List.pairwise_cons.1 hp
    rw [cklS, if_pos h1, if_neg (by rw [h2]; exact Bool.false_ne_true)]
    refine ckl_of (fun y hy => ⟨(h y (List.mem_cons_of_mem _ hy)).1, ?_⟩) p2
    have h3 := (h y (List.mem_cons_of_mem _ hy)).2
    simp only [numIn, List.any_append, Bool.or_eq_false_iff, List.any_cons, List.any_nil, decide_eq_false_iff_not, and_true] at h3 ⊢
    exact ⟨h3, p1 y hy⟩
theorem wholeL_len (N w : Nat) (d : List (List Int)) : (wholeL N w d).length = N := by simp [wholeL]
theorem wholeL_get {N w i : Nat} (d : List (List Int)) (h : i < N) : (wholeL N w d)[i]? = some ⟨(i : Int) + 1, (List.range w).map fun q : Nat => horner (colS d q) ((i : Int) + 1)⟩ := by simp [wholeL, h]
theorem wholeL_wl (N w : Nat) (d : List (List Int)) : ∀ x, x ∈ wholeL N w d → x.Words.length = w ∧ allW x.Words := fun x hx => by
  obtain ⟨i, _, rfl⟩ := List.mem_map.1 hx
  refine ⟨by simp, fun a ha => ?_⟩
  obtain ⟨q, _, rfl⟩ := List.mem_map.1 ha
  exact horner_W _ _
/-- The first leaves are the data. -/
theorem whole_row {w : Nat} {d : List (List Int)} (hd : dataW w d) {i : Nat} (hi : i < d.length) : ((List.range w).map fun q : Nat => horner (colS d q) ((i : Int) + 1)) = d.getD i [] := by
  have hr := (hd.2 (d.getD i []) (by rw [List.getD_eq_getElem?_getD, List.getElem?_eq_getElem hi]; exact List.getElem_mem hi)).1
  refine List.ext_getElem (by rw [List.length_map, List.length_range, hr]) fun j h1 h2 => ?_
  have hj : j < w := by simpa using h1
  rw [List.getElem_map, List.getElem_range, col_at hd hj hi, List.getD_eq_getElem?_getD, List.getElem?_eq_getElem h2]; rfl
section
variable {N w : Nat} {d : List (List Int)} {hs : List Harm}
theorem left_num (hw : 0 < w) (hN : 0 < N) (hh : ∀ h, h ∈ hs → hOk h) {i : Nat} (hi : i < N) : ((harmS (wholeL N w d) hs).o.getD i ⟨0, []⟩).Number = (i : Int) + 1 := by
  have h := HSok.all (hs := hs) hw (by rw [wholeL_len]; exact hN) (wholeL_wl N w d) hh
  rw [h.num i, getD_q (wholeL_get d hi)]
theorem left_mem (hw : 0 < w) (hN : 0 < N) (hh : ∀ h, h ∈ hs → hOk h) : ∀ x, x ∈ leftS (harmS (wholeL N w d) hs) N → (1 ≤ x.Number ∧ x.Number ≤ (N : Int)) ∧ x.Words.length = w ∧ allW x.Words := fun x hx => by
  have h := HSok.all (hs := hs) hw (by rw [wholeL_len]; exact hN) (wholeL_wl N w d) hh
  obtain ⟨i, hi, rfl⟩ := List.mem_map.1 hx
  have hi' : i < N := List.mem_range.1 ((List.mem_filter.1 hi).1)
  have hl : i < (harmS (wholeL N w d) hs).o.length := by rw [h.len, wholeL_len]; exact hi'
  refine ⟨by rw [left_num hw hN hh hi']; omega, h.wl _ ?_⟩
  rw [List.getD_eq_getElem?_getD, List.getElem?_eq_getElem hl]; exact List.getElem_mem hl
theorem left_lt (hw : 0 < w) (hN : 0 < N) (hh : ∀ h, h ∈ hs → hOk h) (p : Nat → Bool) : (((List.range N).filter p).map fun i => (harmS (wholeL N w d) hs).o.getD i ⟨0, []⟩).Pairwise fun x y => x.Number < y.Number := by
  rw [List.pairwise_map]
  have h1 : ((List.range N).filter p).Pairwise (· < ·) := (List.pairwise_lt_range (n := N)).filter p
  refine h1.imp_of_mem fun {a b} ha hb hab => ?_
  rw [left_num hw hN hh (List.mem_range.1 ((List.mem_filter.1 ha).1)), left_num hw hN hh (List.mem_range.1 ((List.mem_filter.1 hb).1))]
  omega
/-- The numbers of what is wrong. -/
theorem bad_eq (hw : 0 < w) (hN : 0 < N) (hh : ∀ h, h ∈ hs → hOk h) : badS (wholeL N w d) (harmS (wholeL N w d) hs) N = wrongM (wholeL N w d) (leftS (harmS (wholeL N w d) hs) N) N := by
  have h := HSok.all (hs := hs) hw (by rw [wholeL_len]; exact hN) (wholeL_wl N w d) hh
  refine DM.wrong_eq Leaf.Number (badM (wholeL N w d)) (fun x hx => (left_mem hw hN hh x hx).1) ?_ ?_
  · have h1 := left_lt (d := d) hw hN hh (badF (wholeL N w d) (harmS (wholeL N w d) hs))
    rw [List.pairwise_map] at h1
    unfold badS DM.Srt
    rw [List.pairwise_map]
    exact h1.imp fun h => by omega
  · rw [leftS, List.filter_map, List.map_map, List.filter_filter, badS]
    have e : (List.range N).filter (badF (wholeL N w d) (harmS (wholeL N w d) hs)) = (List.range N).filter (fun i => ((badM (wholeL N w d) ∘ fun i => (harmS (wholeL N w d) hs).o.getD i ⟨0, []⟩) i) && !(harmS (wholeL N w d) hs).T.contains i) := by
      refine List.filter_congr fun i hi => ?_
      have hi' := List.mem_range.1 hi
      have hn := left_num (d := d) hw hN hh hi'
      have hg : ((wholeL N w d).getD (((harmS (wholeL N w d) hs).o.getD i ⟨0, []⟩).Number - 1).toNat ⟨0, []⟩) = (wholeL N w d).getD i ⟨0, []⟩ := by
        rw [hn, show ((i : Int) + 1 - 1).toNat = i by omega]
      simp only [badF, Function.comp, badM, hg]
      rw [Bool.and_comm (!decide _)]
      congr 1
      by_cases hc : i ∈ (harmS (wholeL N w d) hs).C
      · have hp : 0 < (harmS (wholeL N w d) hs).C.count i := List.count_pos_iff.2 hc
        rw [decide_eq_true hp, Bool.true_and]
        congr 1
        exact decide_eq_decide.2 eq_comm
      · have hp : ¬ 0 < (harmS (wholeL N w d) hs).C.count i := fun h => hc (List.count_pos_iff.1 h)
        rw [decide_eq_false hp, Bool.false_and, h.hit i hc]
        simp
    rw [e]
    exact List.Perm.refl _
end
theorem recover_law {s : Shape} {d : List (List Int)} {hs : List Harm} (hc : CkOk s) (hd : DataS s d = true) (hN : s.Data.toNat + s.Checks.toNat ≤ 12) (hh : ∀ h, h ∈ hs → hOk h)
    (hf : s.Data + 2 * ((badS (wholeL (s.Data.toNat + s.Checks.toNat) s.Width.toNat d) (harmS (wholeL (s.Data.toNat + s.Checks.toNat) s.Width.toNat d) hs) (s.Data.toNat + s.Checks.toNat)).length : Int) ≤ ((leftS (harmS (wholeL (s.Data.toNat + s.Checks.toNat) s.Width.toNat d) hs) (s.Data.toNat + s.Checks.toNat)).length : Int)) :
    let L := wholeL (s.Data.toNat + s.Checks.toNat) s.Width.toNat d
    let l := leftS (harmS L hs) (s.Data.toNat + s.Checks.toNat)
    let b := badS L (harmS L hs) (s.Data.toNat + s.Checks.toNat)
    CheckLeavesS s l = 0 ∧ MendS s l = ((d, b), 0) ∧ JudgeS s l d b = 0 := by
  intro L l b
  obtain ⟨⟨c1, c2⟩, ⟨c3, c4⟩, c5, c6⟩ := hc
  have hw : 0 < s.Width.toNat := by omega
  have hN0 : 0 < s.Data.toNat + s.Checks.toNat := by omega
  have hm := left_mem (d := d) hw hN0 hh
  have hll : l.length ≤ 12 := Nat.le_trans (leftS_len _ _) hN
  have h0 : CheckLeavesS s l = 0 := by
    unfold CheckLeavesS
    rw [if_pos (by unfold CheckS; rw [if_pos ⟨⟨c1, c2⟩, ⟨c3, c4⟩, c5, c6⟩]), if_neg (by omega)]
    refine ckl_of (fun x hx => ⟨?_, rfl⟩) ?_
    · obtain ⟨⟨n1, n2⟩, n3, n4⟩ := hm x hx
      unfold leafOk
      rw [decide_eq_true ⟨n1, by omega⟩, decide_eq_true (by omega), Bool.true_and, Bool.true_and, List.all_eq_true]
      exact fun a ha => decide_eq_true (n4 a ha)
    · exact (left_lt hw hN0 hh _).imp fun h => by omega
  have hj := (judge_iff (d := d) (wr := b) h0 hll).2 ⟨hd, bad_eq hw hN0 hh, by show 2 * (b.length : Int) + s.Data ≤ l.length; have : s.Data + 2 * (b.length : Int) ≤ (l.length : Int) := hf; omega⟩
  refine ⟨h0, ?_, ?_⟩
  · obtain ⟨j1, j2, j3⟩ := hj
    generalize MendS s l = r at j1 j2 j3
    obtain ⟨⟨p, q⟩, e⟩ := r
    dsimp only at j1 j2 j3
    subst j1; subst j2; subst j3; rfl
  · unfold JudgeS
    rw [if_pos h0, if_pos]
    exact ⟨hd, bad_eq hw hN0 hh, by show 2 * (b.length : Int) + s.Data ≤ l.length; have : s.Data + 2 * (b.length : Int) ≤ (l.length : Int) := hf; omega⟩
end Go.DL
